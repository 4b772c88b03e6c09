/- the references 30 and 31: Fetch, shown, with where the entries lie the reference 31: Show LiarShowSpec: for every liar, device and folder the law returns true and its arguments read as before; the package variables digest.start and digest.numbers are as the program's text lays them (the tied card); no other condition. -/
import Derived.Test.YtnonfdcbnkdmcaaGreatDoorLgB
import Derived.Test.YtnonfdcbnkdmcaaGreatDoorLfC
import Derived.Test.YtnonfdcbnkdmcaaGreatDoorLiC
import Derived.Test.YtnonfdcbnkdmcaaGreatDoorRsJ
import Derived.Test.YtnonfdcbnkdmcaaGreatDoorCards
import Derived.Test.YtnonfdcbnkdmcaaGreatDoorTie
import Derived.SevenTiedAt
import Derived.Deep.DeepHandedRow
import Derived.Deep.DeepWitnessRowRef
namespace Go.Proofs.YtnonfdcbnkdmcaaGreatDoor
open Go.RowKit Go.Mem Go.Shelf
open Go.Sto (Ent St Rul BdL)

def FeK (Kp : Nat → Prop) (l : List Ent) (q : Int) (w : World) (e : Ending) (w' : World) : Prop := ∃ a c, e = .returned (.tuple #[.slice a l.length c, .int .i64 q]) ∧ ES Kp w' a l.length c l ∧ Below w.heap.size w w'

set_option maxRecDepth 20000 in
set_option maxHeartbeats 2000000 in
theorem r30fetchK_any {Kp : Nat → Prop} (a : Option Addr) (n c : Nat) (s : St) (f fr : Int) (hfr : I64 fr) (w : World) (H : SV Kp w a n c s) :
    Calls Tryz.prog 85 #[.agg #[.int .i64 s.id, .int .i64 s.priv, .slice a n c], .int .i64 f, .int .i64 fr] w (FeK Kp (Sto.fetchS s f fr).1 (Sto.fetchS s f fr).2 w) := by
  obtain ⟨sb, hsb⟩ : ∃ sb, Hid (w.heap.size = sb) := ⟨_, rfl⟩
  obtain ⟨W0, hW0⟩ : ∃ W, Hid (w.alloc (.cells #[.int .i64 s.id, .int .i64 s.priv, .slice a n c] 24) = W) := ⟨_, rfl⟩
  have hB : Hid (Blk W0 sb 24 (stC s a n c)) := by rw [← hW0.out, ← hsb.out]; exact Blk.new w _ (stC s a n c)
  have hb : Hid (Below w.heap.size w W0) := by rw [← hW0.out]; exact (Below.refl _ w).alloc (Nat.le_refl _) _
  have H' := Lib.hid (H.below hb.out)
  have hop := Lib.hid (r30open_any Kp a n c s f W0 H'.out)
  clear H
  obtain ⟨fl, fh⟩ := hfr
  obtain ⟨X, hX⟩ : ∃ X, X = FeK Kp (Sto.fetchS s f fr).1 (Sto.fetchS s f fr).2 w := ⟨_, rfl⟩
  have hfin : Hid (∀ l q ea ec W, Sto.fetchS s f fr = (l, q) → ES Kp W ea l.length ec l → Below W0.heap.size W0 W → X (.returned (.tuple #[.slice ea l.length ec, .int .i64 q])) W) := fun l q ea ec W h1 h2 h3 => by
    rw [hX, h1]; exact ⟨ea, ec, rfl, h2, hb.out.trans (h3.mono hb.out.size)⟩
  have hfe : Hid (∀ q W, Sto.fetchS s f fr = ([], q) → Below W0.heap.size W0 W → X (.returned (.tuple #[.slice none 0 0, .int .i64 q])) W) := fun q W h1 h3 => hfin.out [] q none 0 W h1 (ES.nil0 _ _) h3
  rw [← hX]
  clear hX
  have s0 : W0.cell? ⟨sb, 0, none⟩ = some (.int .i64 s.id) := hB.out.at_ (i := 0) rfl
  have s1 : W0.cell? ⟨sb, 1, none⟩ = some (.int .i64 s.priv) := hB.out.at_ (i := 1) rfl
  have s2 : W0.cell? ⟨sb, 2, none⟩ = some (.slice a n c) := hB.out.at_ (i := 2) rfl
  obtain ⟨q, hq⟩ : ∃ q, Hid (Sto.openE s f = q) := ⟨_, rfl⟩
  rw [hq.out] at hop
  go_enter Tryz.func85, Tryz.ntmps85
  go_upto_region 1 with fail
  rw [hsb.out]
  generalize hWq : w.alloc _ = Wq
  obtain rfl : W0 = Wq := by rw [← hWq]; exact hW0.out.symm
  clear hWq hW0
  go_wp2_with fail
  refine hop.out.mono ?_
  rintro e w1 ⟨rfl, hb1⟩
  clear s0 s1 s2
  by_cases hq0 : q = 0
  · subst hq0
    have s0 := (hB.out.below hb1 hB.out.lt).at_ (i := 0) rfl
    have s1 := (hB.out.below hb1 hB.out.lt).at_ (i := 1) rfl
    have s2 := (hB.out.below hb1 hB.out.lt).at_ (i := 2) rfl
    have hen := Lib.hid (r30ents_any Kp a n c s f w1 (H'.out.below hb1))
    have hv : Hid (Sto.fetchS s f fr = if 1 ≤ fr ∧ fr ≤ (Sto.ents s f).length + 1 then ((Sto.ents s f).drop (fr - 1).toNat, 0) else ([], 1)) := by show _ = _; unfold Sto.fetchS; rw [if_pos hq.out]
    have hb1' := Lib.hid hb1
    clear hb1 hop hB
    go_wp2_with fail
    refine hen.out.mono ?_
    rintro e w2 ⟨ea, ec, rfl, hES, hb2⟩
    have hb2' := Lib.hid (hb1'.out.trans (hb2.mono hb1'.out.size))
    clear s0 s1 s2 hen hb2 hb1' hq
    generalize Sto.ents s f = l at *
    have hle := hES.rs.le
    have hmx := hES.rs.max
    have hbd := hES.bd
    obtain ⟨m, hm⟩ : ∃ m, l.length = m := ⟨_, rfl⟩
    rw [hm] at hES hle hbd hv ⊢
    have hES' := Lib.hid hES
    have hmw : IntKind.i64.wrap ((m : Int) + 1) = (m : Int) + 1 := IntWalk.i64_in _ (by omega)
    by_cases h1 : 1 ≤ fr
    · have q1 : decide (fr < 1) = false := decide_eq_false (by omega)
      obtain ⟨j, hfj⟩ : ∃ j : Nat, fr - 1 = (j : Int) := ⟨(fr - 1).toNat, by omega⟩
      by_cases h2 : j ≤ m
      · have q2 : decide ((m : Int) + 1 < fr) = false := decide_eq_false (by omega)
        have hv2 : Hid (Sto.fetchS s f fr = (l.drop j, 0)) := by show _ = _; rw [hv.out, if_pos ⟨h1, by omega⟩, show (fr - 1).toNat = j by omega]
        have j0 : (0 : Int) ≤ (j : Int) := by omega
        have j1 : (j : Int) ≤ (m : Int) := by omega
        have hjw : IntKind.i64.wrap (j : Int) = (j : Int) := IntWalk.i64_in _ (by omega)
        have hle' : (m : Int) ≤ (ec : Int) := by omega
        clear hv hfe
        have hm' := Lib.hid hm
        clear hm
        cases ea with
        | none =>
          obtain ⟨hn0, hc0⟩ := hES.rs.nil' rfl
          subst hn0 hc0
          obtain rfl : l = [] := List.eq_nil_of_length_eq_zero hm'.out
          obtain rfl : j = 0 := by omega
          have hend := Lib.hid (hfin.out [] 0 none 0 w2 hv2.out (ES.nil0 _ _) hb2'.out)
          clear hES hES' hfin
          go_wp2_with fail
          exact hend.out
        | some ad =>
          by_cases hl0 : m = 0
          · subst hl0
            obtain rfl : l = [] := List.eq_nil_of_length_eq_zero hm'.out
            obtain rfl : j = 0 := by omega
            have hend := Lib.hid (hfin.out [] 0 (some ad) ec w2 hv2.out hES hb2'.out)
            clear hES hES' hfin
            go_wp2_with fail
            exact hend.out
          · obtain ⟨b, off, e1, _, _⟩ := hES.rs.block_lt (by omega)
            cases e1
            have hcut := hES.rs.cut (k := j) h2
            have hdl : (l.drop j).length = m - j := by rw [List.length_drop, hm'.out]
            by_cases hej : ec = j
            · rw [if_pos hej] at hcut
              subst hej
              obtain rfl : m = ec := by omega
              rw [Nat.sub_self] at hcut hdl
              have hend := Lib.hid (hfin.out (l.drop m) 0 _ 0 w2 hv2.out (by rw [hdl]; exact ⟨hcut, by omega⟩) hb2'.out)
              rw [hdl] at hend
              clear hES hES' hfin hcut hdl
              go_wp2_with fail
              exact hend.out
            · rw [if_neg hej] at hcut
              have hend := Lib.hid (hfin.out (l.drop j) 0 _ _ w2 hv2.out (by rw [hdl]; exact ⟨hcut, by omega⟩) hb2'.out)
              rw [hdl] at hend
              clear hES hES' hfin hcut hdl
              go_wp2_with fail
              exact hend.out
      · have q2 : decide ((m : Int) + 1 < fr) = true := decide_eq_true (by omega)
        have hend := Lib.hid (hfe.out 1 w2 (by rw [hv.out, if_neg (by omega)]) hb2'.out)
        clear hES hES' hfin hv
        go_wp2_with fail
        exact hend.out
    · have q1 : decide (fr < 1) = true := decide_eq_true (by omega)
      have hend := Lib.hid (hfe.out 1 w2 (by rw [hv.out, if_neg (fun h => h1 h.1)]) hb2'.out)
      clear hES hES' hfin hv
      go_wp2_with fail
      exact hend.out
  · have q0 : (q != 0) = true := by simpa using hq0
    have hend := Lib.hid (hfe.out q w1 (by unfold Sto.fetchS; rw [if_neg (by rw [hq.out]; exact hq0), hq.out]) hb1)
    clear hfin hop hfe
    go_wp2_with fail
    exact hend.out

/-- what the reference's shown hands back. -/
def RshK (Kp : Nat → Prop) (x : List Ent × List Ent × Int) (w : World) (e : Ending) (w' : World) : Prop :=
  ∃ ta tn tc la ln lc, e = .returned (.tuple #[.slice ta tn tc, .slice la ln lc, .int .i64 x.2.2]) ∧ ES Kp w' ta tn tc x.1 ∧ ES Kp w' la ln lc x.2.1 ∧ Below w.heap.size w w'

set_option maxRecDepth 20000 in
set_option maxHeartbeats 16000000 in
theorem r31shownK_any {Kp : Nat → Prop} (a : Option Addr) (n c : Nat) (s : St) (ra : Option Addr) (rn rc : Nat) (rs : List Rul) (dev f : Int) (w : World) (hKn0 : ∀ b, w.heap.size ≤ b → Kp b) (H : SV Kp w a n c s) (HR : RuS w ra rn rc rs) (hbd : BdL 0 (Sto.ents s f)) :
    Calls Tryz.prog 39 #[.agg (liC s a n c ra rn rc).toArray, .int .i64 dev, .int .i64 f] w (RshK Kp (Sto.shownL s rs dev f) w) := by
  have hlen := HR.len
  have hmx := RS.max HR
  have hle := RS.le HR
  have H' := Lib.hid H; have HR' := Lib.hid HR
  have hbd' := Lib.hid hbd
  have hKn := Lib.hid hKn0
  clear hKn0
  clear H HR hbd
  obtain ⟨sb, hsb⟩ : ∃ sb, Hid (w.heap.size = sb) := ⟨_, rfl⟩
  obtain ⟨W1, hW1⟩ : ∃ W1, W1 = w.alloc (.cells #[.int .i64 s.id, .int .i64 s.priv, .slice a n c, .slice ra rn rc] 27) := ⟨_, rfl⟩
  have hB : Hid (Blk W1 sb 27 (liC s a n c ra rn rc)) := by rw [hW1, ← hsb.out]; exact Blk.new w _ (liC s a n c ra rn rc)
  have hbw : Hid (Below w.heap.size w W1) := by rw [hW1]; exact (Below.refl _ w).alloc (Nat.le_refl _) _
  have hc := Lib.hid (fun W (hW : Below w.heap.size w W) => r31check_any a n c s ra rn rc rs W ((H'.out.below hW).imp fun _ _ _ => trivial) (HR'.out.below hW))
  have hft := Lib.hid (fun W (hW : Below w.heap.size w W) => r30fetchK_any a n c s f 1 ⟨by decide, by decide⟩ W (H'.out.below hW))
  have n63 : (rn : Int) ≤ 9223372036854775807 := by omega
  unfold liC at hc ⊢
  obtain ⟨X, hXX⟩ : ∃ X, Hid (X = RshK Kp (Sto.shownL s rs dev f) w) := ⟨_, rfl⟩
  rw [← hXX.out]
  have hret : Hid (∀ T L q ta tn tc la ln lc W, Sto.shownL s rs dev f = (T, L, q) → ES Kp W ta tn tc T → ES Kp W la ln lc L → Below w.heap.size w W → X (.returned (.tuple #[.slice ta tn tc, .slice la ln lc, .int .i64 q])) W) := fun T L q ta tn tc la ln lc W e h1 h2 h3 => by
    rw [hXX.out, e]; exact ⟨ta, tn, tc, la, ln, lc, rfl, h1, h2, h3⟩
  have herr : Hid (∀ q W, Sto.shownL s rs dev f = ([], [], q) → Below w.heap.size w W → X (.returned (.tuple #[.slice none 0 0, .slice none 0 0, .int .i64 q])) W) := fun q W e h => hret.out [] [] q none 0 0 none 0 0 W e (ES.nil0 _ _) (ES.nil0 _ _) h
  clear hXX
  obtain ⟨q0, hq0⟩ : ∃ q0, Hid (Sto.chkL s rs = q0) := ⟨_, rfl⟩
  rw [hq0.out] at hc
  go_enter Tryz.func39, Tryz.ntmps39
  go_upto_region 1 with fail
  rw [hsb.out]
  generalize hWq : w.alloc _ = Wq
  obtain rfl : W1 = Wq := by rw [← hWq, hW1]
  clear hWq hW1
  have c0 := hB.out.at_ (i := 0) rfl
  have c1 := hB.out.at_ (i := 1) rfl
  have c2 := hB.out.at_ (i := 2) rfl
  have c3 := hB.out.at_ (i := 3) rfl
  go_wp2_with fail
  refine (hc.out _ hbw.out).mono ?_
  rintro e w2 ⟨rfl, hz⟩
  replace hB := Lib.hid (hB.out.below hz hB.out.lt)
  replace hbw := Lib.hid (hbw.out.trans (hz.mono hbw.out.size))
  clear hz hc c0 c1 c2 c3
  by_cases h0 : q0 = 0
  case neg =>
    have g0 : (q0 != 0) = true := by simpa using h0
    have hend := Lib.hid (herr.out q0 w2 (by unfold Sto.shownL; rw [if_neg (by rw [hq0.out]; exact h0), hq0.out]) hbw.out)
    clear h0 herr hret
    go_wp2_with fail
    exact hend.out
  case pos =>
  subst h0
  have hall := Sto.chkL_all hq0.out
  have hok : Hid (∀ k x, rs[k]? = some x → Sto.okRul x = true) := fun k x h => List.all_eq_true.1 hall.2.2 x (List.mem_of_getElem? h)
  have hr64 : rn ≤ 64 := by have := hall.2.1; omega
  clear hall
  by_cases h1 : 0 ≤ dev ∧ dev < 512
  case neg =>
    have hend := Lib.hid (herr.out 1 w2 (by unfold Sto.shownL Sto.devB; rw [if_pos hq0.out, decide_eq_false h1]; rfl) hbw.out)
    clear herr hret
    by_cases h2 : dev < 0
    · have g1 : decide (dev < 0) = true := decide_eq_true h2
      clear h1 h2
      go_wp2_with fail
      exact hend.out
    · have g1 : decide (dev < 0) = false := decide_eq_false h2
      have g2 : decide (512 ≤ dev) = true := decide_eq_true (by omega)
      clear h1 h2
      go_wp2_with fail
      exact hend.out
  case pos =>
  have g1 : decide (dev < 0) = false := decide_eq_false (by omega)
  have g2 : decide (512 ≤ dev) = false := decide_eq_false (by omega)
  have hsh : Hid (Sto.shownL s rs dev f = if (Sto.fetchS s f 1).2 = 0 then ((Sto.fetchS s f 1).1, Sto.lies dev rs (Sto.fetchS s f 1).1, 0) else ([], [], (Sto.fetchS s f 1).2)) := by
    show _ = _
    unfold Sto.shownL Sto.devB
    rw [if_pos hq0.out, decide_eq_true h1, if_pos rfl]
  have hTb := Lib.hid (Sto.fetch_bd (fr := 1) hbd'.out)
  clear h1 hq0 hbd'
  obtain ⟨FS, hFS⟩ : ∃ x, Hid (Sto.fetchS s f 1 = x) := ⟨_, rfl⟩
  rw [hFS.out] at hft hsh hTb
  clear hFS
  obtain ⟨T, q1⟩ := FS
  simp only [] at hsh hTb
  have c0 := hB.out.at_ (i := 0) rfl
  have c1 := hB.out.at_ (i := 1) rfl
  have c2 := hB.out.at_ (i := 2) rfl
  go_wp2_with fail
  refine (hft.out _ hbw.out).mono ?_
  rintro e w3 ⟨ta, tc, rfl, hES, hz⟩
  try simp only [] at hES
  replace hB := Lib.hid (hB.out.below hz hB.out.lt)
  replace hbw := Lib.hid (hbw.out.trans (hz.mono hbw.out.size))
  clear hz hft c0 c1 c2
  try simp only []
  obtain ⟨tn, htn⟩ : ∃ n, T.length = n := ⟨_, rfl⟩
  rw [htn] at hES ⊢
  have hES' := Lib.hid hES
  clear hES htn
  by_cases h2 : q1 = 0
  case neg =>
    have g3 : (q1 != 0) = true := by simpa using h2
    have hend := Lib.hid (herr.out q1 w3 (by rw [hsh.out, if_neg h2]) hbw.out)
    clear h2 herr hret hsh
    go_wp2_with fail
    exact hend.out
  case pos =>
  subst h2
  obtain ⟨F, hF⟩ : ∃ F, Hid (Sto.lies dev rs T = F) := ⟨_, rfl⟩
  have hs2 : Hid (Sto.shownL s rs dev f = (T, F, 0)) := by show _ = _; rw [hsh.out, if_pos rfl, hF.out]
  have hfin : Hid (∀ la ln lc W, ES Kp W la ln lc F → Below w3.heap.size w3 W → X (.returned (.tuple #[.slice ta tn tc, .slice la ln lc, .int .i64 0])) W) := fun la ln lc W h1 h2 => hret.out T F 0 ta tn tc la ln lc W hs2.out (hES'.out.below h2) h1 (hbw.out.trans (h2.mono hbw.out.size))
  clear hsh hs2 hret herr
  go_wp2_with fail
  go_loopw [11, 12] (fun sl i wr => ∃ (k : Nat) (L : List Ent) (xa : Option Addr) (xn xc : Nat), k ≤ rn ∧ i = .int .i64 (k : Int) ∧ sl = .slice xa xn xc ∧ Hid (ES Kp wr xa xn xc L) ∧ Hid (Sto.lies dev (rs.drop k) L = F) ∧ Hid (BdL k L) ∧ Hid (Below w3.heap.size w3 wr)) (fun _ i _ => rn - (intOf i).toNat)
  case atStart => exact ⟨0, T, ta, tn, tc, Nat.zero_le _, rfl, rfl, hES', hF, hTb, Below.refl _ _⟩
  case round =>
    clear hES' hF hTb
    obtain ⟨k, L, xa, xn, xc, hk, rfl, rfl, hE, hl, hbdk, hbr⟩ := hrel
    generalize wr = wq at *
    have d3 := (hB.out.below hbr.out hB.out.lt).at_ (i := 3) rfl
    by_cases hlt : k < rn
    · obtain ⟨x, hx⟩ : ∃ x, rs[k]? = some x := ⟨_, List.getElem?_eq_getElem (by omega)⟩
      have hl' := Sto.lies_at hl.out hx
      have hxo := hok.out k x hx
      have hbq : Below w.heap.size w wq := hbw.out.trans (hbr.out.mono hbw.out.size)
      obtain ⟨b, off, rfl, hbl, e0, e1, e2⟩ := (HR'.out.below hbq).at hx
      have k0 : (0 : Int) ≤ (k : Int) := by omega
      have k1 : (k : Int) < (rn : Int) := by omega
      by_cases hd : x.dev = dev
      · rw [if_pos hd] at hl'
        have hlie : Hid (Calls Tryz.prog 86 #[.slice xa xn xc, .agg #[.int .i64 x.dev, .int .i64 x.kind, .int .i64 x.n]] wq (LieK Kp (Sto.lie x.kind x.n L) wq)) := r31lieK_any xa xn xc L x hxo wq (fun b h => hKn.out b (Nat.le_trans hbq.size h)) hE.out (by have := hbdk.out.len; omega) (fun e he => by have := hbdk.out.data e he; omega)
        have hb2 : Hid (BdL (k + 1) (Sto.lie x.kind x.n L)) := Sto.lie_bd hbdk.out x.kind x.n
        have p1 : (x.dev == dev) = true := by simpa using hd
        have p2 : decide (x.dev = dev) = true := decide_eq_true hd
        have hl2 := Lib.hid hl'
        have hbr2 := Lib.hid hbr.out
        generalize Sto.lie x.kind x.n L = L2 at *
        clear hd hl' hl hx hxo hE hbdk hbq
        go_wp2_with fail
        refine hlie.out.mono ?_
        rintro e w4 ⟨ya, yc, rfl, hY, hz⟩
        obtain ⟨yn, hyn⟩ : ∃ n, L2.length = n := ⟨_, rfl⟩
        rw [hyn] at hY ⊢
        have hY' := Lib.hid hY
        have hb4 := Lib.hid (hbr2.out.trans (hz.mono hbr2.out.size))
        clear hz hY hyn hlie e0 e1 e2 d3 p1 p2
        go_wp2_with fail
        go_roundw
        case rel => exact ⟨k + 1, L2, ya, yn, yc, by omega, by go_num, rfl, hY', hl2, hb2, hb4⟩
        case measure => simp [intOf]; omega
      · rw [if_neg hd] at hl'
        have p1 : (x.dev == dev) = false := by simpa using hd
        have p2 : decide (x.dev = dev) = false := decide_eq_false hd
        have hl2 := Lib.hid hl'
        have hb2 : Hid (BdL (k + 1) L) := hbdk.out.mono (by omega)
        clear hd hl' hl hx hxo hbdk hbq
        go_wp2_with fail
        go_roundw
        case rel => exact ⟨k + 1, L, xa, xn, xc, by omega, by go_num, rfl, hE, hl2, hb2, hbr⟩
        case measure => simp [intOf]; omega
    · obtain rfl : rn = k := by omega
      have hLF : L = F := by
        have := hl.out
        rw [List.drop_eq_nil_of_le (by omega)] at this
        exact this
      have hend := Lib.hid (hfin.out xa xn xc wq (by rw [← hLF]; exact hE.out) hbr.out)
      clear hLF hl hE hbdk hfin hlt
      go_wp2_with fail
      exact hend.out
end Go.Proofs.YtnonfdcbnkdmcaaGreatDoor
namespace Go.Proofs.YtnonfdcbnkdmcaaGreatDoor
open Go.RowKit Go.Mem Go.Shelf
open Go.Sto (Ent St Rul BdL)
open Go.Vw (Hd)

/-- what the reference's Show hands back. -/
def RskPost (L : List Ent) (k : Hd) (q : Int) (w : World) (e : Ending) (w' : World) : Prop :=
  ∃ va vn vc, e = .returned (.tuple #[.slice va vn vc, .agg (hdC k).toArray, .int .i64 q]) ∧ ES (fun _ => True) w' va vn vc L ∧ Below w.heap.size w w'
theorem ES.oks {K : Nat → Prop} {w : World} {a : Option Addr} {n c : Nat} {l : List Ent} (H : ES K w a n c l) : ∀ e ∈ l, OkE e := fun e he => by
  obtain ⟨i, hi⟩ := List.getElem?_of_mem he
  obtain ⟨_, _, _, _, _, _, ⟨ho, _⟩, _, _⟩ := H.rs.get hi
  exact ho

set_option maxRecDepth 20000 in
set_option maxHeartbeats 16000000 in
theorem r31show_any {k : Hd} (okk : OkH k) (a : Option Addr) (n c : Nat) (s : St) (ra : Option Addr) (rn rc : Nat) (rs : List Rul) (dev f : Int) (hk : hdC k = showH s rs dev f) (hf : I64 f) (w : World) (H : SV (fun _ => True) w a n c s) (HR : RuS w ra rn rc rs) (hbd : BdL 0 (Sto.ents s f)) :
    Calls Tryz.prog 11 #[.agg #[.int .i64 s.id, .int .i64 s.priv, .slice a n c, .slice ra rn rc], .int .i64 dev, .int .i64 f] w (RskPost (Sto.showL s rs dev f).1 k (Sto.showL s rs dev f).2 w) := by
  have H' := Lib.hid H; have HR' := Lib.hid HR
  obtain ⟨sb, hsb⟩ : ∃ sb, Hid (w.heap.size = sb) := ⟨_, rfl⟩
  obtain ⟨W1, hW1⟩ : ∃ W1, W1 = (w.alloc (.cells #[.int .i64 s.id, .int .i64 s.priv, .slice a n c, .slice ra rn rc] 27)).alloc (.cells zeroHd.toArray 36) := ⟨_, rfl⟩
  have e1 : (w.alloc (.cells #[.int .i64 s.id, .int .i64 s.priv, .slice a n c, .slice ra rn rc] 27)).heap.size = sb + 1 := by rw [World.size_alloc, hsb.out]
  have hB : Hid (Blk W1 sb 27 (liC s a n c ra rn rc)) := by rw [hW1, ← hsb.out]; exact (Blk.new w _ (liC s a n c ra rn rc)).alloc _
  have hZ : Hid (Blk W1 (sb + 1) 36 zeroHd) := by rw [hW1, ← e1]; exact Blk.new _ _ _
  have hbw : Hid (Below w.heap.size w W1) := by rw [hW1]; exact ((Below.refl _ w).alloc (Nat.le_refl _) _).alloc (by simp) _
  clear e1
  have hws : Hid (W1.heap.size = sb + 2) := by show _ = _; rw [hW1, World.size_alloc, World.size_alloc, hsb.out]
  have hs1 : Hid (Calls Tryz.prog 39 #[.agg #[.int .i64 s.id, .int .i64 s.priv, .slice a n c, .slice ra rn rc], .int .i64 dev, .int .i64 f] W1 (RshK (fun b => b ≠ sb + 1) (Sto.shownL s rs dev f) W1)) := r31shownK_any a n c s ra rn rc rs dev f W1 (fun b h => by have := hws.out; omega) ((H'.out.imp (K' := fun b => b ≠ sb + 1) fun b hb _ => by have := hsb.out; omega).below hbw.out) (HR'.out.below hbw.out) hbd
  have hsz := Lib.hid (Sto.shown_bd (rs := rs) (dev := dev) hbd)
  have hok0 := Lib.hid (@Sto.shownL_ok s rs dev f)
  obtain ⟨X, hXX⟩ : ∃ X, Hid (X = RskPost (Sto.showL s rs dev f).1 k (Sto.showL s rs dev f).2 w) := ⟨_, rfl⟩
  rw [← hXX.out]
  have hret : Hid (∀ L q va vn vc W, Sto.showL s rs dev f = (L, q) → ES (fun _ => True) W va vn vc L → Below w.heap.size w W → X (.returned (.tuple #[.slice va vn vc, .agg (hdC k).toArray, .int .i64 q])) W) := fun L q va vn vc W e h1 h2 => by
    rw [hXX.out, e]; exact ⟨va, vn, vc, rfl, h1, h2⟩
  clear hXX H HR hbd
  unfold Sto.showL at hret
  unfold showH at hk
  obtain ⟨P, hP⟩ : ∃ x, Hid (Sto.shownL s rs dev f = x) := ⟨_, rfl⟩
  rw [hP.out] at hret hs1 hsz hk hok0
  clear hP
  obtain ⟨T, L, q⟩ := P
  simp only [] at hret hsz hk hok0
  have hk' := Lib.hid hk
  have hkl := Lib.hid (hdC_len okk)
  have hko := Lib.hid (hdC_r okk).one
  have hki := infoHd okk
  clear hk okk
  go_enter Tryz.func11, Tryz.ntmps11
  go_upto_region 1 with fail
  rw [hsb.out]
  generalize hWq : (w.alloc _).alloc _ = Wq
  obtain rfl : W1 = Wq := by rw [← hWq, hW1]; rfl
  clear hWq hW1
  have c0 := hB.out.at_ (i := 0) rfl
  have c1 := hB.out.at_ (i := 1) rfl
  have c2 := hB.out.at_ (i := 2) rfl
  have c3 := hB.out.at_ (i := 3) rfl
  go_wp2_with fail
  refine hs1.out.mono ?_
  rintro e w2 ⟨ta, tn, tc, la, ln, lc, rfl, hT, hL, hz⟩
  simp only [] at hL ⊢
  have hL' := Lib.hid hL
  replace hB := Lib.hid (hB.out.below hz hB.out.lt)
  replace hZ := Lib.hid (hZ.out.below hz hZ.out.lt)
  replace hbw := Lib.hid (hbw.out.trans (hz.mono hbw.out.size))
  clear hT hL hz hs1 c0 c1 c2 c3
  obtain ⟨rk, hrk⟩ : ∃ r, Hid (hdC k = r) := ⟨_, rfl⟩
  rw [hrk.out] at hkl hko hki hk' hret
  by_cases h0 : q = 0
  case neg =>
    have g0 : (q != 0) = true := by simpa using h0
    have hrz : rk = zeroHd := by rw [hk'.out, if_neg h0]
    have hend0 : Hid (∀ W, Below w.heap.size w W → X (.returned (.tuple #[.slice none 0 0, .agg rk.toArray, .int .i64 q])) W) := fun W h => hret.out [] q none 0 0 W (by rw [if_neg h0]) (ES.nil0 _ _) h
    obtain ⟨W6, hQ⟩ := put_row (ty := 36) hZ.out (x := rk) (by rw [hrz]) hki.out hko.out
    have hend := Lib.hid (hend0.out W6 (below_grown hbw.out hQ.grown hbw.out.size (by have := hsb.out; omega)))
    have hQ' := Lib.hid hQ
    have hblk := Lib.hid hQ.blk
    have hbz := Lib.hid build_hd0
    rw [← hrz] at hbz
    clear h0 hret hend0 hQ hrz hk' hZ hB
    go_wp2_with (first
      | (refine wpList_build_run (by rfl) 36 _ rfl #[] (by simp) (hbz.out _) ?_)
      | (refine wpList_store_mid (by rfl) 36 (.tmp 7) (.tmp 23) (by rfl) (sb + 1) 0 rk.toArray (by rfl) (by rfl) hQ'.out.there hQ'.out.info (by simpa using hQ'.out.one) ?_
         generalize hWq : World.setCells _ _ _ _ = Wa
         obtain rfl : W6 = Wa := by rw [← hWq]; exact hQ'.out.eq
         clear hWq))
    exact ret_tmp_cell_tmp (fn := Tryz.f11) rfl hblk.out Tryz.underlying36 rfl hki.out rfl rfl rfl rfl hend.out
  case pos =>
  subst h0
  have hop := Sto.fetch_open (hok0.out rfl).2.2.1
  have hll := hL'.out.rs.len
  have hlb : L.length ≤ 78 := hsz.out.len
  have hsg : Hid (∀ W, Below w2.heap.size w2 W → Calls Tryz.prog 40 #[.agg #[.int .i64 s.id, .int .i64 s.priv, .slice a n c], .int .i64 f, .slice la ln lc] W (SignHPost rk 0 W)) := fun W hW => by
    have := r30sign_any base_ok30 a n c s f hf (fun b => b ≠ sb + 1) la ln lc L hL'.out.oks W (H'.out.below (hbw.out.trans (hW.mono hbw.out.size))) (hL'.out.below hW) (by omega) hop
    rw [hk'.out, if_pos rfl, hll]
    exact this
  have hfin : Hid (∀ W, ES (fun _ => True) W la ln lc L → Below w.heap.size w W → X (.returned (.tuple #[.slice la ln lc, .agg rk.toArray, .int .i64 0])) W) := fun W h1 h2 => hret.out L 0 la ln lc W (by rw [if_pos rfl]) h1 h2
  have l63 : (ln : Int) ≤ 78 := by omega
  unfold SignHPost at hsg
  clear hret hk' hok0 hop hll hsz hlb
  have c0 := hB.out.at_ (i := 0) rfl
  have c1 := hB.out.at_ (i := 1) rfl
  have c2 := hB.out.at_ (i := 2) rfl
  go_wp2_with fail
  refine (hsg.out _ (Below.refl _ _)).mono ?_
  rintro e w3 ⟨rfl, hz⟩
  have hz' := Lib.hid hz
  replace hZ := Lib.hid (hZ.out.below hz hZ.out.lt)
  clear hz hsg hB c0 c1 c2
  obtain ⟨qh, hqh⟩ : ∃ g, Hid (w3.heap.size = g) := ⟨_, rfl⟩
  obtain ⟨V3, hP⟩ := put_row (ty := 36) (Blk.new w3 36 zeroHd) (x := rk) (by rw [hkl.out]; simp [zeroHd, headC, bv_length]) hki.out hko.out
  have hb3 : Below w3.heap.size w3 V3 := below_grown ((Below.refl _ w3).alloc (Nat.le_refl _) _) hP.grown (by simp) (Nat.le_refl _)
  have hZ3 := Lib.hid (hZ.out.below hb3 hZ.out.lt)
  have hH3 : Hid (Blk V3 qh 36 rk) := by rw [← hqh.out]; exact hP.blk
  have hnq : sb + 1 < qh := by rw [← hqh.out]; exact hZ.out.lt
  have hbv : Hid (Below w2.heap.size w2 V3) := hz'.out.trans (hb3.mono hz'.out.size)
  have hP' := Lib.hid hP
  rw [hqh.out] at hP'
  have hsbw : sb + 1 < w2.heap.size ∨ True := .inr trivial
  clear hP hb3 hZ hz' hsbw
  go_upto_region 5 with (first
    | (rw [hqh.out]
       refine wpList_store_mid (by rfl) 36 _ _ (by rfl) qh 0 rk.toArray (by rfl) (by rfl) hP'.out.there hP'.out.info (by simpa using hP'.out.one) ?_
       generalize hWq : World.setCells _ _ _ _ = Wa
       obtain rfl : V3 = Wa := by rw [← hWq]; exact hP'.out.eq
       clear hWq))
  try simp only [Act.put]
  clear hP' hqh
  go_wp2_with fail
  have hZd : Blk V3.drew (sb + 1) 36 zeroHd := hZ3.out
  have hHd : Blk V3.drew qh 36 rk := hH3.out
  have hbd : Below w2.heap.size w2 V3.drew := hbv.out.trans ((Below.refl _ V3).drew.mono hbv.out.size)
  clear hZ3 hH3 hbv
  have hLd : ES (fun b => b ≠ sb + 1) V3.drew la ln lc L := hL'.out.below hbd
  have hbw0 : Below w.heap.size w V3.drew := hbw.out.trans (hbd.mono hbw.out.size)
  have hfin0 : Hid (∀ W, V3.drew.grownBy W (some (sb + 1)) → X (.returned (.tuple #[.slice la ln lc, .agg rk.toArray, .int .i64 0])) W) := fun W hg => hfin.out W ((hLd.keep (Keeps.grown hg fun b hb e => hb e)).imp fun _ _ _ => trivial) (below_grown hbw0 hg hbw0.size (by have := hsb.out; omega))
  clear hLd hbw0 hfin hL'
  refine wp_region_held_drew (S := fun wz => Blk wz qh 36 rk) (by kernel_rfl) (hHd) (fun hHeld => ?_)
  generalize V3.drew = Wd at *
  refine wpAnyH_take (i := 0) (oi := { dst := some 37, op := Op.move (Operand.tmp 10), type := 30, pos := "ref.go:88", after := #[], guard := none }) (v := ?_) rfl (by kernel_rfl) (by kernel_rfl) (by kernel_rfl) (fun _ _ _ h => h) (Or.inl ⟨by rfl, ?_⟩) hHeld ?_
  rotate_left
  · intro wz hSw
    go_simp
    all_goals (with_reducible rfl)
  try simp only [Act.put, List.setIfInBounds_toArray, List.set_cons_zero, List.set_cons_succ]
  refine wpAnyH_take (i := 1) (oi := { dst := some 38, op := Op.load 36 (Operand.tmp 12), type := 36, pos := "ref.go:88", after := #[{ on := 2, ground := Ground.gcOnly Departure.lateStores }], guard := none }) rfl (by kernel_rfl) (by kernel_rfl) (by kernel_rfl) (fun _ _ _ h => h) (yieldsIf_load_mid (by rfl) _ _ rfl qh 0 rfl (rk) _ (fun wz h => h.range) Tryz.underlying36 rfl (hki.out)) hHeld ?_
  try simp only [Act.put, List.setIfInBounds_toArray, List.set_cons_zero, List.set_cons_succ]
  refine wpAnyH_take (i := 2) (oi := { dst := some 6, op := Op.assign (Operand.tmp 37), type := 30, pos := "ref.go:88", after := #[{ on := 0, ground := Ground.data }, { on := 0, ground := Ground.phase }, { on := 1, ground := Ground.textOnly Departure.lateStores }], guard := none }) (v := ?_) rfl (by kernel_rfl) (by kernel_rfl) (by kernel_rfl) (fun _ _ _ h => h) (Or.inl ⟨by rfl, ?_⟩) hHeld ?_
  rotate_left
  · intro wz hSw
    go_simp
    all_goals (with_reducible rfl)
  try simp only [Act.put, List.setIfInBounds_toArray, List.set_cons_zero, List.set_cons_succ]
  obtain ⟨W7, hQ⟩ := put_row (ty := 36) hZd (x := rk) (by rw [hkl.out]; simp [zeroHd, headC, bv_length]) hki.out hko.out
  have hH7 := hHd.grown hQ.grown (fun e => by injection e with e; omega)
  have hend := Lib.hid (hfin0.out W7 hQ.grown)
  have hQ' := Lib.hid hQ
  have hblk := Lib.hid hQ.blk
  clear hQ
  refine wpAnyH_ready (rs := [3]) (by kernel_rfl) (by simp) ?_
  refine AllReadyH.cons (o := { dst := none, op := Op.store 36 (Operand.tmp 7) (Operand.tmp 38), type := 0, pos := "ref.go:88", after := #[{ on := 1, ground := Ground.data }, { on := 2, ground := Ground.chain }, { on := 0, ground := Ground.phase }, { on := 1, ground := Ground.phase }, { on := 2, ground := Ground.phase }], guard := none }) rfl (fun K hK => ?_) AllReadyH.nil
  rw [if_pos (by rfl)]
  refine wp_store_mid 36 _ _ rfl (sb + 1) 0 rk.toArray (by rfl) (by rfl) hQ'.out.there hQ'.out.info (by simpa using hQ'.out.one) ?_
  generalize hWq : World.setCells _ _ _ _ = Wa
  obtain rfl : W7 = Wa := by rw [← hWq]; exact hQ'.out.eq
  clear hWq
  refine hK.out _ _ hH7 (fun hHeld2 => ?_)
  clear hHeld
  have hHeld := hHeld2
  clear hHeld2
  clear hK K
  try simp only [Act.put]
  refine wpAnyH_take (i := 4) (oi := { dst := some 8, op := Op.assign (Operand.const (Value.int IntKind.i64 0)), type := 37, pos := "ref.go:88", after := #[{ on := 3, ground := Ground.chain }, { on := 0, ground := Ground.phase }, { on := 1, ground := Ground.phase }, { on := 2, ground := Ground.phase }, { on := 3, ground := Ground.phase }], guard := none }) (v := ?_) rfl (by kernel_rfl) (by kernel_rfl) (by kernel_rfl) (fun _ _ _ h => h) (Or.inl ⟨by rfl, ?_⟩) hHeld ?_
  rotate_left
  · intro wz hSw
    go_simp
    all_goals (with_reducible rfl)
  try simp only [Act.put, List.setIfInBounds_toArray, List.set_cons_zero, List.set_cons_succ]
  refine wpAnyH_done (by kernel_rfl) ?_ _
  clear hHeld
  go_wp2_with fail
  exact ret_tmp_cell_tmp (fn := Tryz.f11) rfl hblk.out Tryz.underlying36 rfl hki.out rfl rfl rfl rfl hend.out
end Go.Proofs.YtnonfdcbnkdmcaaGreatDoor
namespace Go.Proofs.YtnonfdcbnkdmcaaGreatDoor
open Go.RowKit Go.Mem Go.Shelf
open Go.Sto (Ent St Rul forkE BdL)
open Go.Vw (Hd Sg eqH)

/-- what the last line reads. -/
structure LssS (w : World) (sb g8 g11 : Nat) (s : St) (a : Option Addr) (n c : Nat) (ra : Option Addr) (rn rc : Nat) (k : Hd) (va : Option Addr) (vn vc : Nat) (xa : Option Addr) (xn xc : Nat) (L : List Ent) (wz : World) : Prop where
  b1 : Blk wz sb 27 (liC s a n c ra rn rc)
  b8 : Blk wz g8 36 (hdC k)
  b11 : Blk wz g11 36 (hdC k)
  es : ES (fun _ => True) wz va vn vc L
  fs : ES (fun _ => True) wz xa xn xc L
  bel : Below w.heap.size w wz
theorem LssS.below {w : World} {sb g8 g11 : Nat} {s : St} {a : Option Addr} {n c : Nat} {ra : Option Addr} {rn rc : Nat} {k : Hd} {va : Option Addr} {vn vc : Nat} {xa : Option Addr} {xn xc : Nat} {L : List Ent} {wz wq : World} (h : LssS w sb g8 g11 s a n c ra rn rc k va vn vc xa xn xc L wz) (hb : Below wz.heap.size wz wq) : LssS w sb g8 g11 s a n c ra rn rc k va vn vc xa xn xc L wq :=
  ⟨h.b1.below hb h.b1.lt, h.b8.below hb h.b8.lt, h.b11.below hb h.b11.lt, h.es.below hb, h.fs.below hb, h.bel.trans (hb.mono h.bel.size)⟩

set_option maxRecDepth 100000 in
set_option maxHeartbeats 20000000 in
theorem lss_walk (s : St) (a : Option Addr) (n c : Nat) (ra : Option Addr) (rn rc : Nat) (rs : List Rul) (dev : Int) (_i1 : I64 dev) (f : Int) (hf : I64 f) (w : World) (HT : Tabs w) (S0 : SVr w a n c s) (R0 : RuS w ra rn rc rs) :
    Calls Tryz.prog 3 #[.agg (liC s a n c ra rn rc).toArray, .int .i64 dev, .int .i64 f] w (RetBo true w) := by
  have hrl := R0.len
  have hrm : rn ≤ 9223372036854775807 := Nat.le_trans (RS.le R0) (RS.max R0)
  have HT' := Lib.hid HT; have S0' := Lib.hid S0; have R0' := Lib.hid R0
  clear HT S0 R0
  obtain ⟨sb, hsb⟩ : ∃ sb, Hid (w.heap.size = sb) := ⟨_, rfl⟩
  obtain ⟨W1, hW1⟩ : ∃ W1, Hid (w.alloc (.cells #[.int .i64 s.id, .int .i64 s.priv, .slice a n c, .slice ra rn rc] 27) = W1) := ⟨_, rfl⟩
  have hB1 : Hid (Blk W1 sb 27 (liC s a n c ra rn rc)) := by rw [← hW1.out, ← hsb.out]; exact Blk.new w _ (liC s a n c ra rn rc)
  have hbw : Hid (Below w.heap.size w W1) := by rw [← hW1.out]; exact (Below.refl _ w).alloc (Nat.le_refl _) _
  obtain ⟨X, hX⟩ : ∃ X, Hid (X = RetBo true w) := ⟨_, rfl⟩
  have hfin : Hid (∀ W, Below w.heap.size w W → X (.returned (.bool true)) W) := fun W hb => by rw [hX.out]; exact ⟨rfl, hb⟩
  rw [← hX.out]
  clear hX
  obtain ⟨fq, hfq⟩ : ∃ q, Hid (fewL s rn = q) := ⟨_, rfl⟩
  have hfw := Lib.hid (fun W (hW : Below w.heap.size w W) => few31_any a n c s ra rn rc W (S0'.out.below hW) hrm)
  rw [hfq.out] at hfw
  unfold liC at *
  go_enter Tryz.func3, Tryz.ntmps3
  go_upto_region 1 with fail
  rw [hsb.out]
  generalize hWq : w.alloc _ = Wq
  obtain rfl : W1 = Wq := by rw [← hWq]; exact hW1.out.symm
  clear hWq hW1
  go_wp2_with fail
  refine (sane31_any _ (HT'.out.below hbw.out)).mono ?_
  rintro e w2 ⟨rfl, hst⟩
  replace hB1 := Lib.hid (hB1.out.below hst hB1.out.lt)
  replace hbw := Lib.hid (hbw.out.trans (hst.mono hbw.out.size))
  clear hst
  have l0 := hB1.out.at_ (i := 0) rfl
  have l1 := hB1.out.at_ (i := 1) rfl
  have l2 := hB1.out.at_ (i := 2) rfl
  have l3 := hB1.out.at_ (i := 3) rfl
  go_wp2_with fail
  refine (hfw.out _ hbw.out).mono ?_
  rintro e w3 ⟨rfl, hst⟩
  replace hB1 := Lib.hid (hB1.out.below hst hB1.out.lt)
  replace hbw := Lib.hid (hbw.out.trans (hst.mono hbw.out.size))
  clear hst l0 l1 l2 l3 hfw
  cases fq with
  | false =>
    have hf := Lib.hid (hfin.out _ hbw.out)
    clear hB1 hbw hfq
    go_wp2_with fail
    exact hf.out
  | true =>
    have hfew : few30s s = true ∧ rn ≤ 70 := by
      have := hfq.out
      unfold fewL at this
      simpa using this
    have hsv : Hid (∀ W, Below w.heap.size w W → SV (fun _ => True) W a n c s) := fun W h => (S0'.out.below h).sv hfew.1
    have hrs : Hid (∀ W, Below w.heap.size w W → RuS W ra rn rc rs) := fun W h => R0'.out.below h
    have hbd : Hid (∀ f, BdL 0 (Sto.ents s f)) := fun f => few_bd hfew.1 f
    have hrn : rn ≤ 70 := hfew.2
    clear hfq hfew S0' R0'
    obtain ⟨k, okk, hk, _⟩ := show_hk (rs := rs) (dev := dev) (hbd.out f)
    have hok' := Lib.hid okk
    have hsh := Lib.hid (shk_any hk hf (HT'.out.below hbw.out) (hsv.out _ hbw.out) (hrs.out _ hbw.out) (hbd.out f))
    have hrh := Lib.hid (fun W (hW : Below w.heap.size w W) => r31show_any okk a n c s ra rn rc rs dev f hk hf W (hsv.out W hW) (hrs.out W hW) (hbd.out f))
    have hc1 := Lib.hid (fun W (hW : Below w.heap.size w W) => liCheck_any a n c s ra rn rc rs W (HT'.out.below hW) (hsv.out W hW) (hrs.out W hW))
    have hc2 := Lib.hid (fun W (hW : Below w.heap.size w W) => r31check_any a n c s ra rn rc rs W (hsv.out W hW) (hrs.out W hW))
    have heq := Lib.hid (fun W => eq_head okk okk W)
    simp only [eqH_refl] at heq
    obtain ⟨y, hy⟩ : ∃ y, Hid (Sto.chkL s rs = y) := ⟨_, rfl⟩
    rw [hy.out] at hc1 hc2
    unfold liC at hc1 hc2
    clear hk okk hy hsv hrs hbd
    generalize hp : Sto.showL s rs dev f = p at *
    obtain ⟨L, q⟩ := p
    simp only at hsh hrh
    clear hp
    have hyy : (y == y) = true := by simp
    have hqq : (q == q) = true := by simp
    have l0 := hB1.out.at_ (i := 0) rfl
    have l1 := hB1.out.at_ (i := 1) rfl
    have l2 := hB1.out.at_ (i := 2) rfl
    have l3 := hB1.out.at_ (i := 3) rfl
    go_wp2_with fail
    refine hsh.out.mono ?_
    rintro e w4 ⟨va, vc, rfl, hE, hst⟩
    replace hB1 := Lib.hid (hB1.out.below hst hB1.out.lt)
    replace hbw := Lib.hid (hbw.out.trans (hst.mono hbw.out.size))
    obtain ⟨vn, hvn⟩ : ∃ n, L.length = n := ⟨_, rfl⟩
    rw [hvn] at hE ⊢
    have hEs : Hid (ES (fun _ => True) w4 va vn vc L) := hE.imp fun _ _ _ => trivial
    clear hst hE hvn l0 l1 l2 l3 hsh
    obtain ⟨v4, hP⟩ : ∃ V, Hid (PutR 36 (w4.alloc (.cells (zeroHd : List Value).toArray 36)) V w4.heap.size 36 (hdC k)) := put_row (Blk.new w4 36 (zeroHd)) (by rw [hdC_len hok'.out, zeroHd_len]) (by rw [hdC_len hok'.out]; exact size37) ((hdC_r hok'.out).one)
    have hst := below_grown ((Below.refl _ w4).alloc (Nat.le_refl _) _) hP.out.grown (by simp) (Nat.le_refl _)
    replace hB1 := Lib.hid (hB1.out.below hst hB1.out.lt)
    replace hEs := Lib.hid (hEs.out.below hst)
    replace hbw := Lib.hid (hbw.out.trans (hst.mono hbw.out.size))
    clear hst
    have hB8 := Lib.hid hP.out.blk
    obtain ⟨g8, hg8⟩ : ∃ g, Hid (w4.heap.size = g) := ⟨_, rfl⟩
    have l0 := hB1.out.at_ (i := 0) rfl
    have l1 := hB1.out.at_ (i := 1) rfl
    have l2 := hB1.out.at_ (i := 2) rfl
    have l3 := hB1.out.at_ (i := 3) rfl
    go_wp2_with (first
      | (refine wpList_store_mid (by rfl) 36 (.tmp 8) (.tmp 24) (by rfl) w4.heap.size 0 (hdC k).toArray (by rfl) (by rfl) hP.out.there hP.out.info (by simpa using hP.out.one) ?_
         generalize hWq : World.setCells _ _ _ _ = Wa
         obtain rfl : v4 = Wa := by rw [← hWq]; exact hP.out.eq
         clear hWq))
    refine (hrh.out _ hbw.out).mono ?_
    rintro e w5 ⟨xa, xn, xc, rfl, hF, hst⟩
    try simp only []
    clear l0 l1 l2 l3
    replace hB1 := Lib.hid (hB1.out.below hst hB1.out.lt)
    replace hEs := Lib.hid (hEs.out.below hst)
    replace hB8 := Lib.hid (hB8.out.below hst hB8.out.lt)
    replace hbw := Lib.hid (hbw.out.trans (hst.mono hbw.out.size))
    have hFs := Lib.hid hF
    rw [hg8.out] at hB8
    rw [hg8.out]
    clear hst hF hrh hP
    obtain ⟨v5, hP⟩ : ∃ V, Hid (PutR 36 (w5.alloc (.cells (zeroHd : List Value).toArray 36)) V w5.heap.size 36 (hdC k)) := put_row (Blk.new w5 36 (zeroHd)) (by rw [hdC_len hok'.out, zeroHd_len]) (by rw [hdC_len hok'.out]; exact size37) ((hdC_r hok'.out).one)
    have hst := below_grown ((Below.refl _ w5).alloc (Nat.le_refl _) _) hP.out.grown (by simp) (Nat.le_refl _)
    replace hB1 := Lib.hid (hB1.out.below hst hB1.out.lt)
    replace hEs := Lib.hid (hEs.out.below hst)
    replace hB8 := Lib.hid (hB8.out.below hst hB8.out.lt)
    replace hFs := Lib.hid (hFs.out.below hst)
    replace hbw := Lib.hid (hbw.out.trans (hst.mono hbw.out.size))
    clear hst
    have hB11 := Lib.hid hP.out.blk
    obtain ⟨g11, hg11⟩ : ∃ g, Hid (w5.heap.size = g) := ⟨_, rfl⟩
    go_upto_region 7 with (first
      | (refine wpList_store_mid (by rfl) 36 (.tmp 11) (.tmp 32) (by rfl) w5.heap.size 0 (hdC k).toArray (by rfl) (by rfl) hP.out.there hP.out.info (by simpa using hP.out.one) ?_
         generalize hWq : World.setCells _ _ _ _ = Wa
         obtain rfl : v5 = Wa := by rw [← hWq]; exact hP.out.eq
         clear hWq))
    rw [hg11.out] at hB11
    rw [hg11.out]
    clear hP
    have hS0 : LssS w sb g8 g11 s a n c ra rn rc k va vn vc xa xn xc L v5 := ⟨hB1.out, hB8.out, hB11.out, hEs.out, hFs.out, hbw.out⟩
    clear hB1 hB8 hB11 hEs hFs hg8 hg11
    refine wp_region_held_drew (S := fun wz => LssS w sb g8 g11 s a n c ra rn rc k va vn vc xa xn xc L wz) (by kernel_rfl) (hS0.below (Below.refl _ v5).drew) (fun hHeld => ?_)
    refine wpAnyH_take (i := 0) (oi := { dst := some 34, op := Op.load 27 (Operand.tmp 3), type := 27, pos := "law.go:46", after := #[], guard := none }) (v := ?_) rfl (by kernel_rfl) (by kernel_rfl) (by kernel_rfl) (fun _ _ _ h => h) (Or.inl ⟨by rfl, ?_⟩) hHeld ?_
    rotate_left
    · intro wz hSw
      have q0 := hSw.b1.at_ (i := 0) rfl
      have q1 := hSw.b1.at_ (i := 1) rfl
      have q2 := hSw.b1.at_ (i := 2) rfl
      have q3 := hSw.b1.at_ (i := 3) rfl
      go_simp
      all_goals (with_reducible rfl)
    try simp only [Act.put, List.setIfInBounds_toArray, List.set_cons_zero, List.set_cons_succ]
    refine wpAnyH_take (i := 2) (oi := { dst := some 36, op := Op.load 27 (Operand.tmp 3), type := 27, pos := "law.go:46", after := #[], guard := none }) (v := ?_) rfl (by kernel_rfl) (by kernel_rfl) (by kernel_rfl) (fun _ _ _ h => h) (Or.inl ⟨by rfl, ?_⟩) hHeld ?_
    rotate_left
    · intro wz hSw
      have q0 := hSw.b1.at_ (i := 0) rfl
      have q1 := hSw.b1.at_ (i := 1) rfl
      have q2 := hSw.b1.at_ (i := 2) rfl
      have q3 := hSw.b1.at_ (i := 3) rfl
      go_simp
      all_goals (with_reducible rfl)
    try simp only [Act.put, List.setIfInBounds_toArray, List.set_cons_zero, List.set_cons_succ]
    refine wpAnyH_ready (rs := [1]) (by kernel_rfl) (by simp) ?_
    refine AllReadyH.cons (o := { dst := some 35, op := Op.call { callee := Callee.value (Operand.func 12), args := #[Operand.tmp 34], argTypes := #[27] }, type := 37, pos := "law.go:46", after := #[{ on := 0, ground := Ground.data }], guard := none }) rfl (fun K hK => ?_) AllReadyH.nil
    rw [if_pos (by rfl)]
    show Oper.wp _ _ _ _ K _
    go_simp
    go_at_call 12
    refine (hc1.out _ hHeld.bel).mono ?_
    rintro e wq ⟨rfl, hbq⟩
    refine hK.out _ _ (hHeld.below hbq) (fun hHeld => ?_)
    clear hbq
    clear hK K
    try simp only [Act.put, List.setIfInBounds_toArray, List.set_cons_zero, List.set_cons_succ]
    refine wpAnyH_ready (rs := [3]) (by kernel_rfl) (by simp) ?_
    refine AllReadyH.cons (o := { dst := some 37, op := Op.call { callee := Callee.value (Operand.func 13), args := #[Operand.tmp 36], argTypes := #[27] }, type := 37, pos := "law.go:46", after := #[{ on := 2, ground := Ground.data }, { on := 1, ground := Ground.chain }], guard := none }) rfl (fun K hK => ?_) AllReadyH.nil
    rw [if_pos (by rfl)]
    show Oper.wp _ _ _ _ K _
    go_simp
    go_at_call 13
    refine (hc2.out _ hHeld.bel).mono ?_
    rintro e wq ⟨rfl, hbq⟩
    refine hK.out _ _ (hHeld.below hbq) (fun hHeld => ?_)
    clear hbq
    clear hK K
    try simp only [Act.put, List.setIfInBounds_toArray, List.set_cons_zero, List.set_cons_succ]
    refine wpAnyH_take (i := 4) (oi := { dst := some 38, op := Op.binOp BinOp.eql 37 (Operand.tmp 35) (Operand.tmp 37) 37, type := 4, pos := "law.go:46", after := #[{ on := 1, ground := Ground.data }, { on := 3, ground := Ground.data }], guard := none }) (v := ?_) rfl (by kernel_rfl) (by kernel_rfl) (by kernel_rfl) (fun _ _ _ h => h) (Or.inl ⟨by rfl, ?_⟩) hHeld ?_
    rotate_left
    · intro wz hSw
      go_simp
      all_goals (with_reducible rfl)
    try simp only [Act.put, List.setIfInBounds_toArray, List.set_cons_zero, List.set_cons_succ]
    refine wpAnyH_take (i := 5) (oi := { dst := some 39, op := Op.move (Operand.tmp 38), type := 4, pos := "law.go:46", after := #[{ on := 4, ground := Ground.data }, { on := 3, ground := Ground.chain }], guard := none }) (v := ?_) rfl (by kernel_rfl) (by kernel_rfl) (by kernel_rfl) (fun _ _ _ h => h) (Or.inl ⟨by rfl, ?_⟩) hHeld ?_
    rotate_left
    · intro wz hSw
      go_simp
      all_goals (with_reducible rfl)
    try simp only [Act.put, List.setIfInBounds_toArray, List.set_cons_zero, List.set_cons_succ]
    refine wpAnyH_take (i := 6) (oi := { dst := some 40, op := Op.move (Operand.tmp 7), type := 30, pos := "law.go:46", after := #[{ on := 5, ground := Ground.guard }], guard := some (5, true) }) (v := ?_) rfl (by kernel_rfl) (by kernel_rfl) (by kernel_rfl) (fun _ _ _ h => h) (Or.inl ⟨by rfl, ?_⟩) hHeld ?_
    rotate_left
    · intro wz hSw
      go_simp
      all_goals (with_reducible rfl)
    try simp only [Act.put, List.setIfInBounds_toArray, List.set_cons_zero, List.set_cons_succ]
    refine wpAnyH_take (i := 7) (oi := { dst := some 41, op := Op.move (Operand.tmp 10), type := 30, pos := "law.go:46", after := #[{ on := 5, ground := Ground.guard }], guard := some (5, true) }) (v := ?_) rfl (by kernel_rfl) (by kernel_rfl) (by kernel_rfl) (fun _ _ _ h => h) (Or.inl ⟨by rfl, ?_⟩) hHeld ?_
    rotate_left
    · intro wz hSw
      go_simp
      all_goals (with_reducible rfl)
    try simp only [Act.put, List.setIfInBounds_toArray, List.set_cons_zero, List.set_cons_succ]
    refine wpAnyH_ready (rs := [8]) (by kernel_rfl) (by simp) ?_
    refine AllReadyH.cons (o := { dst := some 42, op := Op.call { callee := Callee.value (Operand.func 14), args := #[Operand.tmp 40, Operand.tmp 41], argTypes := #[30, 30] }, type := 4, pos := "law.go:46", after := #[{ on := 6, ground := Ground.data }, { on := 7, ground := Ground.data }, { on := 5, ground := Ground.chain }, { on := 5, ground := Ground.guard }], guard := some (5, true) }) rfl (fun K hK => ?_) AllReadyH.nil
    rw [if_pos (by rfl)]
    show Oper.wp _ _ _ _ K _
    go_simp
    go_at_call 14
    have hv := r30same_any _ _ va vn vc L xa xn xc L _ hHeld.es hHeld.fs
    rw [Sto.sameL_self] at hv
    refine hv.mono ?_
    rintro e wq ⟨rfl, hbq⟩
    clear hv
    refine hK.out _ _ (hHeld.below hbq) (fun hHeld => ?_)
    clear hbq
    clear hK K
    try simp only [Act.put, List.setIfInBounds_toArray, List.set_cons_zero, List.set_cons_succ]
    refine wpAnyH_take (i := 9) (oi := { dst := some 43, op := Op.pick (Operand.tmp 39) (Operand.tmp 42) (Operand.const (Value.bool false)), type := 4, pos := "law.go:46", after := #[{ on := 5, ground := Ground.data }, { on := 8, ground := Ground.data }], guard := none }) (v := ?_) rfl (by kernel_rfl) (by kernel_rfl) (by kernel_rfl) (fun _ _ _ h => h) (Or.inl ⟨by rfl, ?_⟩) hHeld ?_
    rotate_left
    · intro wz hSw
      go_simp
      all_goals (with_reducible rfl)
    try simp only [Act.put, List.setIfInBounds_toArray, List.set_cons_zero, List.set_cons_succ]
    refine wpAnyH_take (i := 10) (oi := { dst := some 44, op := Op.move (Operand.tmp 43), type := 4, pos := "law.go:46", after := #[{ on := 9, ground := Ground.data }, { on := 8, ground := Ground.chain }], guard := none }) (v := ?_) rfl (by kernel_rfl) (by kernel_rfl) (by kernel_rfl) (fun _ _ _ h => h) (Or.inl ⟨by rfl, ?_⟩) hHeld ?_
    rotate_left
    · intro wz hSw
      go_simp
      all_goals (with_reducible rfl)
    try simp only [Act.put, List.setIfInBounds_toArray, List.set_cons_zero, List.set_cons_succ]
    refine wpAnyH_take (i := 11) (oi := { dst := some 45, op := Op.load 36 (Operand.tmp 8), type := 36, pos := "law.go:46", after := #[{ on := 10, ground := Ground.guard }], guard := some (10, true) }) rfl (by kernel_rfl) (by kernel_rfl) (by kernel_rfl) (fun _ _ _ h => h) (yieldsIf_load_mid (by rfl) _ _ rfl g8 0 rfl (hdC k) _ (fun wz h => h.b8.range) Tryz.underlying36 rfl (by rw [hdC_len hok'.out]; exact size37)) hHeld ?_
    try simp only [Act.put, List.setIfInBounds_toArray, List.set_cons_zero, List.set_cons_succ]
    refine wpAnyH_take (i := 12) (oi := { dst := some 46, op := Op.load 36 (Operand.tmp 11), type := 36, pos := "law.go:46", after := #[{ on := 10, ground := Ground.guard }], guard := some (10, true) }) rfl (by kernel_rfl) (by kernel_rfl) (by kernel_rfl) (fun _ _ _ h => h) (yieldsIf_load_mid (by rfl) _ _ rfl g11 0 rfl (hdC k) _ (fun wz h => h.b11.range) Tryz.underlying36 rfl (by rw [hdC_len hok'.out]; exact size37)) hHeld ?_
    try simp only [Act.put, List.setIfInBounds_toArray, List.set_cons_zero, List.set_cons_succ]
    refine wpAnyH_take (i := 13) (oi := { dst := some 47, op := Op.binOp BinOp.eql 36 (Operand.tmp 45) (Operand.tmp 46) 36, type := 4, pos := "law.go:46", after := #[{ on := 11, ground := Ground.data }, { on := 12, ground := Ground.data }, { on := 10, ground := Ground.guard }], guard := some (10, true) }) (v := ?_) rfl (by kernel_rfl) (by kernel_rfl) (by kernel_rfl) (fun _ _ _ h => h) (Or.inl ⟨by rfl, ?_⟩) hHeld ?_
    rotate_left
    · intro wz hSw
      have q := heq.out
      clear hSw
      go_simp
      all_goals (with_reducible rfl)
    try simp only [Act.put, List.setIfInBounds_toArray, List.set_cons_zero, List.set_cons_succ]
    refine wpAnyH_take (i := 14) (oi := { dst := some 48, op := Op.pick (Operand.tmp 44) (Operand.tmp 47) (Operand.const (Value.bool false)), type := 4, pos := "law.go:46", after := #[{ on := 10, ground := Ground.data }, { on := 13, ground := Ground.data }], guard := none }) (v := ?_) rfl (by kernel_rfl) (by kernel_rfl) (by kernel_rfl) (fun _ _ _ h => h) (Or.inl ⟨by rfl, ?_⟩) hHeld ?_
    rotate_left
    · intro wz hSw
      go_simp
      all_goals (with_reducible rfl)
    try simp only [Act.put, List.setIfInBounds_toArray, List.set_cons_zero, List.set_cons_succ]
    refine wpAnyH_take (i := 15) (oi := { dst := some 49, op := Op.move (Operand.tmp 48), type := 4, pos := "law.go:46", after := #[{ on := 14, ground := Ground.data }, { on := 10, ground := Ground.chain }], guard := none }) (v := ?_) rfl (by kernel_rfl) (by kernel_rfl) (by kernel_rfl) (fun _ _ _ h => h) (Or.inl ⟨by rfl, ?_⟩) hHeld ?_
    rotate_left
    · intro wz hSw
      go_simp
      all_goals (with_reducible rfl)
    try simp only [Act.put, List.setIfInBounds_toArray, List.set_cons_zero, List.set_cons_succ]
    refine wpAnyH_take (i := 16) (oi := { dst := some 50, op := Op.move (Operand.tmp 9), type := 37, pos := "law.go:46", after := #[{ on := 15, ground := Ground.guard }], guard := some (15, true) }) (v := ?_) rfl (by kernel_rfl) (by kernel_rfl) (by kernel_rfl) (fun _ _ _ h => h) (Or.inl ⟨by rfl, ?_⟩) hHeld ?_
    rotate_left
    · intro wz hSw
      go_simp
      all_goals (with_reducible rfl)
    try simp only [Act.put, List.setIfInBounds_toArray, List.set_cons_zero, List.set_cons_succ]
    refine wpAnyH_take (i := 17) (oi := { dst := some 51, op := Op.move (Operand.tmp 12), type := 37, pos := "law.go:46", after := #[{ on := 15, ground := Ground.guard }], guard := some (15, true) }) (v := ?_) rfl (by kernel_rfl) (by kernel_rfl) (by kernel_rfl) (fun _ _ _ h => h) (Or.inl ⟨by rfl, ?_⟩) hHeld ?_
    rotate_left
    · intro wz hSw
      go_simp
      all_goals (with_reducible rfl)
    try simp only [Act.put, List.setIfInBounds_toArray, List.set_cons_zero, List.set_cons_succ]
    refine wpAnyH_take (i := 18) (oi := { dst := some 52, op := Op.binOp BinOp.eql 37 (Operand.tmp 50) (Operand.tmp 51) 37, type := 4, pos := "law.go:46", after := #[{ on := 16, ground := Ground.data }, { on := 17, ground := Ground.data }, { on := 15, ground := Ground.guard }], guard := some (15, true) }) (v := ?_) rfl (by kernel_rfl) (by kernel_rfl) (by kernel_rfl) (fun _ _ _ h => h) (Or.inl ⟨by rfl, ?_⟩) hHeld ?_
    rotate_left
    · intro wz hSw
      go_simp
      all_goals (with_reducible rfl)
    try simp only [Act.put, List.setIfInBounds_toArray, List.set_cons_zero, List.set_cons_succ]
    refine wpAnyH_take (i := 19) (oi := { dst := some 53, op := Op.pick (Operand.tmp 49) (Operand.tmp 52) (Operand.const (Value.bool false)), type := 4, pos := "law.go:46", after := #[{ on := 15, ground := Ground.data }, { on := 18, ground := Ground.data }], guard := none }) (v := ?_) rfl (by kernel_rfl) (by kernel_rfl) (by kernel_rfl) (fun _ _ _ h => h) (Or.inl ⟨by rfl, ?_⟩) hHeld ?_
    rotate_left
    · intro wz hSw
      go_simp
      all_goals (with_reducible rfl)
    try simp only [Act.put, List.setIfInBounds_toArray, List.set_cons_zero, List.set_cons_succ]
    refine wpAnyH_take (i := 20) (oi := { dst := some 6, op := Op.assign (Operand.tmp 53), type := 4, pos := "law.go:46", after := #[{ on := 19, ground := Ground.data }, { on := 15, ground := Ground.chain }, { on := 0, ground := Ground.phase }, { on := 1, ground := Ground.phase }, { on := 2, ground := Ground.phase }, { on := 3, ground := Ground.phase }, { on := 4, ground := Ground.phase }, { on := 5, ground := Ground.phase }, { on := 6, ground := Ground.phase }, { on := 7, ground := Ground.phase }, { on := 8, ground := Ground.phase }, { on := 9, ground := Ground.phase }, { on := 10, ground := Ground.phase }, { on := 11, ground := Ground.phase }, { on := 12, ground := Ground.phase }, { on := 13, ground := Ground.phase }, { on := 14, ground := Ground.phase }, { on := 15, ground := Ground.phase }, { on := 16, ground := Ground.phase }, { on := 17, ground := Ground.phase }, { on := 18, ground := Ground.phase }, { on := 19, ground := Ground.phase }], guard := none }) (v := ?_) rfl (by kernel_rfl) (by kernel_rfl) (by kernel_rfl) (fun _ _ _ h => h) (Or.inl ⟨by rfl, ?_⟩) hHeld ?_
    rotate_left
    · intro wz hSw
      go_simp
      all_goals (with_reducible rfl)
    try simp only [Act.put, List.setIfInBounds_toArray, List.set_cons_zero, List.set_cons_succ]
    refine wpAnyH_done (by kernel_rfl) ?_ _
    go_wp2_with fail
    exact hfin.out _ hHeld.bel
end Go.Proofs.YtnonfdcbnkdmcaaGreatDoor
namespace Go.Proofs.YtnonfdcbnkdmcaaGreatDoor.lawLShowSpec
open Go.ChangeShapes Go.WideShapes Go.ChangeAt Go.RowKit Go.Mem
open Go.Proofs.YtnonfdcbnkdmcaaGreatDoor

set_option maxRecDepth 100000 in
theorem lifted (os : Os) (started : os.Started) (H : Type) (enc : TypeId × Value → H) :
    ReturnsInHanded {} Tryz.checked os 3 .any (fun w args => (Rows.liarShowSpecSpec.pre enc Tryz.prog Tryz.f3 [] false w args ∧ laidMetH Tryz.prog laid2 w) ∧ sizedMet enc Tryz.prog Tryz.f3 (OpenSpec.ofChange Rows.liarShowSpecSpec) false w args)
      (Rows.liarShowSpecSpec.post enc Tryz.prog Tryz.f3 false true false false) := by
  refine returnsInHanded_of_change_and (C := Tryz.checked) (X := fun w _ => laidMetH Tryz.prog laid2 w) (fun _ _ _ hh h => h.of_heap hh) own started (by kernel_rfl) Tryz.func3
    (ChangeSpec.witness_shaped (enc := enc) (C := Tryz.checked) (os := os) (X := fun w _ => laidMetH Tryz.prog laid2 w) false (World.doorLaid Tryz.prog 400 os) #[.agg (liC ⟨0, 0, []⟩ none 0 0 none 0 0).toArray, .int .i64 0, .int .i64 0] 8 rfl (World.shaped_of_RefB (by kernel_rfl) (by kernel_rfl)) (by kernel_rfl) (by kernel_rfl) (by kernel_rfl) (door_met os _)) ?_
  intro W base args ds gs before hval0 hW _ hwt hL _
  have hval : ∀ (j : Nat) t v, Tryz.f3.params[j]? = some t → args[j]? = some v → Value.okWide Tryz.prog W .any base t v := hval0
  have hW' := hW
  obtain ⟨p, q, hA0, hV, rfl, hfz, hnd⟩ := hW
  have hA : DataW.TrodAll enc Tryz.prog W 0 (fun _ => true) true Tryz.f3.params.toList args.toList ds p := hA0
  rw [Tryz.params3] at hA hval
  obtain ⟨v0, vs0, d0, ds0, p0, q0, hargs, rfl, rfl, h0, r0⟩ := trodAll_cons hA
  obtain ⟨v1, vs1, d1, ds1, p1, q1, rfl, rfl, rfl, h1, r1⟩ := trodAll_cons r0
  obtain ⟨v2, vs2, d2, ds2, p2, q2, rfl, rfl, rfl, h2, r2⟩ := trodAll_cons r1
  obtain ⟨rfl, rfl, rfl⟩ := trodAll_nil r2
  obtain rfl : args = #[v0, v1, v2] := by cases args; simp_all
  obtain ⟨rfl, rfl⟩ := trodVars_none hV
  have lt0 : ∀ x ∈ p0, x.block < W.heap.size := by obtain ⟨m, hm⟩ := h0; exact DataW.trod_lt m _ _ _ hm
  have lt1 : ∀ x ∈ p1, x.block < W.heap.size := by obtain ⟨m, hm⟩ := h1; exact DataW.trod_lt m _ _ _ hm
  have lt2 : ∀ x ∈ p2, x.block < W.heap.size := by obtain ⟨m, hm⟩ := h2; exact DataW.trod_lt m _ _ _ hm
  have k0' := h0
  have k1' := h1
  have k2' := h2
  obtain ⟨cs0, rfl, _⟩ := okWide_struct Tryz.underlying27 (hval 0 27 v0 rfl rfl)
  obtain ⟨m0, hm0⟩ := h0
  obtain ⟨s0, a0, n0, c0, ra0, rn0, rc0, rs0, e0, S0, R0⟩ := open_liar (cs := cs0.toList) (by simpa [Value.cells] using hm0)
  obtain rfl : cs0 = (liC s0 a0 n0 c0 ra0 rn0 rc0).toArray := by rw [← e0]
  clear hm0 e0
  obtain ⟨x1, rfl⟩ := okWide_int Tryz.underlying3 (hval 1 3 v1 rfl rfl)
  obtain ⟨m1, hm1⟩ := h1
  obtain ⟨x1', e1, i1⟩ := open_int1 (cs := [.int .i64 x1]) (by simpa [Value.cells] using hm1)
  obtain rfl : x1 = x1' := by simpa using e1
  clear hm1 e1
  obtain ⟨x2, rfl⟩ := okWide_int Tryz.underlying3 (hval 2 3 v2 rfl rfl)
  obtain ⟨m2, hm2⟩ := h2
  obtain ⟨x2', e2, i2⟩ := open_int1 (cs := [.int .i64 x2]) (by simpa [Value.cells] using hm2)
  obtain rfl : x2 = x2' := by simpa using e2
  clear hm2 e2
  have hT := tabs_of_laid hL
  clear hA0 hval0
  refine (lss_walk s0 a0 n0 c0 ra0 rn0 rc0 rs0 x1 i1 x2 i2 W hT S0 R0).mono fun e W' ⟨he, bel⟩ => ?_
  subst he
  exact ⟨_, rfl, _, _, _, [], _, [], hW', trodAll_mk1 (shut_bool Tryz.underlying4 _),
    (trodAll_cons_mk (Below.trod laidOut (by kernel_rfl) (of_decide_eq_true (by kernel_rfl)) k0' bel lt0) (trodAll_cons_mk (Below.trod laidOut (by kernel_rfl) (of_decide_eq_true (by kernel_rfl)) k1' bel lt1) (trodAll_cons_mk (Below.trod laidOut (by kernel_rfl) (of_decide_eq_true (by kernel_rfl)) k2' bel lt2) trodAll_mk0))), rfl, bel.frame _, fun h => by cases h⟩

theorem over : Rows.LiarShowSpecSaid :=
  OpenClaim.holds_of_wide 3 Tryz.f3 rfl rfl rfl rfl rfl rfl rfl ⟨rfl, rfl, rfl, rfl, rfl⟩ rfl rfl rfl rfl rfl (by kernel_rfl) Tryz.func3 (by kernel_rfl)
    (of_decide_eq_true (by kernel_rfl)) (by unfold Func.isWrapper; first | (rw [if_pos (by decide +kernel)]; kernel_rfl) | (rw [if_neg (by decide +kernel)]; exact ⟨rfl, rfl⟩))
    (fun os started H enc _ => lifted os started H enc)

theorem proved : Rows.LiarShowSpecCardSaid :=
  Claim7.holds_tied_plain_at .later [] [.data, .data] true (true, "f1795c23477191a86de028924151d0d8d5cdfe28fb540b6f067f4dbe71f008fb") false
    over (fun _ h => by cases h) (by kernel_rfl) (fun _ h => by cases h) liarShowSpec_row_tie rfl ⟨rfl, rfl⟩ (by kernel_rfl) rfl
    (fun f fn hf hfn => by
      obtain rfl : f = 3 := Option.some.inj ((show Tryz.prog.funcNamed "chartroom/chartroomlaw31.LiarShowSpec" = some 3 by kernel_rfl).symm.trans hf) |>.symm
      obtain rfl : fn = Tryz.f3 := (Option.some.inj (Tryz.func3.symm.trans hfn)).symm
      exact ⟨by kernel_rfl, fun j t ht => by
        rw [Tryz.params3] at ht
        have hm : t ∈ [27, 3, 3] := by simpa using Array.mem_of_getElem? ht
        have hall : ([27, 3, 3].all fun u => !Tryz.prog.wantsStandIn u) = true := by kernel_rfl
        exact (show Tryz.prog.wantsStandIn t = false by simpa using List.all_eq_true.1 hall t hm)⟩)
    (by kernel_rfl)
#print axioms proved
end Go.Proofs.YtnonfdcbnkdmcaaGreatDoor.lawLShowSpec
