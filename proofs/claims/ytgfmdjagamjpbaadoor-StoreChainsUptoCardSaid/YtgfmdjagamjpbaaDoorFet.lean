/- store.Fetch -/
import Derived.Test.YtgfmdjagamjpbaaDoorOpn
namespace Go.Proofs.YtgfmdjagamjpbaaDoor
open Go.RowKit Go.Mem
open Go.Sto (Ent Lg St)

def FetPost (l : List Ent) (q : Int) (w : World) (e : Ending) (w' : World) : Prop :=
  ∃ a c, e = .returned (.tuple #[.slice a l.length c, .int .i64 q]) ∧ ES (fun b => w.heap.size ≤ b) w' a l.length c l ∧ Below w.heap.size w w'
theorem FetPost.err {q : Int} {w w' : World} (hb : Below w.heap.size w w') : FetPost [] q w (.returned (.tuple #[.slice none 0 0, .int .i64 q])) w' := ⟨none, 0, rfl, ES.nil0 _ _, hb⟩

set_option maxRecDepth 20000 in
set_option maxHeartbeats 1000000 in
theorem Fetch_any (a : Option Addr) (n c : Nat) (s : St) (f fr : Int) (hfr : I64 fr) (w : World) (HT : Tabs w) (H : SV (fun _ => True) w a n c s) :
    Calls Tryd.prog 10 #[.agg #[.int .i64 s.id, .int .i64 s.priv, .slice a n c], .int .i64 f, .int .i64 fr] w (FetPost (Sto.fetchS s f fr).1 (Sto.fetchS s f fr).2 w) := by
  have HT' := Lib.hid HT; have H' := Lib.hid H
  clear HT H
  obtain ⟨sb, hsb⟩ : ∃ sb, Hid (w.heap.size = sb) := ⟨_, rfl⟩
  have hB1 : Hid (Blk (w.alloc (.cells #[.int .i64 s.id, .int .i64 s.priv, .slice a n c] 26)) sb 26 (stC s a n c)) := by rw [← hsb.out]; exact Blk.new w _ (stC s a n c)
  have hb1 : Hid (Below w.heap.size w (w.alloc (.cells #[.int .i64 s.id, .int .i64 s.priv, .slice a n c] 26))) := (Below.refl _ w).alloc (Nat.le_refl _) _
  have hop := Lib.hid (fun W (hW : Below w.heap.size w W) => open_any (fun _ => True) a n c s f W (HT'.out.below hW) (H'.out.below hW))
  have b0 := hB1.out.at_ (i := 0) rfl
  have b1 := hB1.out.at_ (i := 1) rfl
  have b2 := hB1.out.at_ (i := 2) rfl
  obtain ⟨fl, fh⟩ := hfr
  by_cases hq : Sto.openE s f = 0
  · have hlb : Sto.logsB (-1) s.logs = true := (Sto.chkS_iff s).1 ((Sto.openE_iff s f).1 hq).1 |>.2
    have hen := Lib.hid (fun bb W hW => entries_any (fun _ => True) bb s f W hW hlb)
    have hv : Sto.fetchS s f fr = if 1 ≤ fr ∧ fr ≤ (Sto.ents s f).length + 1 then ((Sto.ents s f).drop (fr - 1).toNat, 0) else ([], 1) := by simp [Sto.fetchS, hq]
    rw [hq] at hop
    rw [hv]
    clear hv hlb hq
    generalize Sto.ents s f = l at *
    by_cases h1 : 1 ≤ fr
    · obtain ⟨j, hfj⟩ : ∃ j : Nat, fr - 1 = (j : Int) := ⟨(fr - 1).toNat, by omega⟩
      by_cases h2 : j ≤ l.length
      · rw [if_pos ⟨h1, by omega⟩, show (fr - 1).toNat = j by omega]
        have j0 : (0 : Int) ≤ (j : Int) := by omega
        have j1 : (j : Int) ≤ (l.length : Int) := by omega
        have hgt : fr ≤ (l.length : Int) + 1 := by omega
        have hjw : IntKind.i64.wrap (j : Int) = (j : Int) := IntWalk.i64_in _ (by omega)
        go_enter Tryd.func10, Tryd.ntmps10
        go_wp2_with fail
        rw [hsb.out]
        generalize World.alloc w _ = W1 at *
        refine (hop.out _ hb1.out).mono ?_
        rintro e w2 ⟨hb2, ⟨_, bb, rfl, hBk⟩ | ⟨hne, _⟩⟩
        case inr => exact absurd rfl hne
        have hb2' := Lib.hid (hb1.out.trans (hb2.mono hb1.out.size))
        have hen2 := Lib.hid (hen.out bb w2 hBk)
        clear hb2 hop hen hBk hB1 hb1 b0 b1 b2
        go_wp2_with fail
        refine hen2.out.mono ?_
        rintro e w3 ⟨ea, ec, rfl, hES, hb3⟩
        have hb3' := Lib.hid (hb2'.out.trans (hb3.mono hb2'.out.size))
        have hES' := Lib.hid hES
        have hle := hES.rs.le
        have hmx := hES.rs.max
        have hbd := hES.bd
        have hle' : (l.length : Int) ≤ (ec : Int) := by omega
        clear hen2 hb3 hb2'
        cases ea with
        | none =>
          obtain ⟨hn0, hc0⟩ := hES.rs.nil' rfl
          have hl0 : l = [] := List.eq_nil_of_length_eq_zero hn0
          subst hl0 hc0
          obtain rfl : j = 0 := by simpa using h2
          have hcl := Lib.hid (fun W => clones_any (fun _ => True) none 0 0 [] W (ES.nil0 _ _))
          go_wp2_with fail
          refine (hcl.out _).mono ?_
          rintro e w4 ⟨a4, c4, rfl, hES4, hb4⟩
          have hfin : Hid (FetPost [] 0 w (.returned (.tuple #[.slice a4 0 c4, .int .i64 0])) w4) := ⟨a4, c4, rfl, hES4.imp fun b _ h => Nat.le_trans hb3'.out.size h, hb3'.out.trans (hb4.mono hb3'.out.size)⟩
          clear hES4 hb4 hcl hb3' hES' hES
          go_wp2_with fail
          go_ret2
          exact hfin.out
        | some ad =>
          by_cases hl0 : l.length = 0
          · have hnil : l = [] := List.eq_nil_of_length_eq_zero hl0
            subst hnil
            obtain rfl : j = 0 := by simpa using h2
            have hcl := Lib.hid (clones_any (fun _ => True) (some ad) 0 ec [] w3 hES)
            clear hES
            go_wp2_with fail
            refine hcl.out.mono ?_
            rintro e w4 ⟨a4, c4, rfl, hES4, hb4⟩
            have hfin : Hid (FetPost [] 0 w (.returned (.tuple #[.slice a4 0 c4, .int .i64 0])) w4) := ⟨a4, c4, rfl, hES4.imp fun b _ h => Nat.le_trans hb3'.out.size h, hb3'.out.trans (hb4.mono hb3'.out.size)⟩
            clear hES4 hb4 hcl hb3' hES'
            go_wp2_with fail
            go_ret2
            exact hfin.out
          · obtain ⟨b, off, e1, _, _⟩ := hES.rs.block_lt (by omega)
            cases e1
            have hcut := hES.rs.cut (k := j) h2
            have hcl := Lib.hid (clones_any (fun _ => True) _ _ _ _ w3 ⟨hcut, by omega⟩)
            obtain ⟨nl, hnl⟩ : ∃ nl, Hid (l.length = nl) := ⟨_, rfl⟩
            have hdl : Hid ((l.drop j).length = nl - j) := by show _ = _; rw [List.length_drop, hnl.out]
            obtain ⟨L2, hL2⟩ : ∃ L2, Hid (l.drop j = L2) := ⟨_, rfl⟩
            rw [hnl.out] at hcl hle hle' hbd j1 h2 ⊢
            rw [hL2.out] at hcl hdl ⊢
            clear hcut hES hES' hl0 hmx
            rw [hnl.out] at hgt
            have hd1 : decide (fr < 1) = false := decide_eq_false (by omega)
            have hd2 : decide ((nl : Int) + 1 < fr) = false := decide_eq_false (by omega)
            by_cases hej : ec = j
            · rw [if_pos hej] at hcl
              subst hej
              obtain rfl : nl = ec := by omega
              rw [Nat.sub_self] at hcl hdl
              go_wp2_with fail
              refine hcl.out.mono ?_
              rintro e w4 ⟨a4, c4, rfl, hES4, hb4⟩
              have hfin : Hid (FetPost L2 0 w (.returned (.tuple #[.slice a4 0 c4, .int .i64 0])) w4) := ⟨a4, c4, by rw [hdl.out], by rw [hdl.out]; exact hES4.imp fun b _ h => Nat.le_trans hb3'.out.size h, hb3'.out.trans (hb4.mono hb3'.out.size)⟩
              clear hES4 hb4 hcl hb3'
              go_wp2_with fail
              go_ret2
              rw [hL2.out]
              exact hfin.out
            · rw [if_neg hej] at hcl
              go_wp2_with fail
              refine hcl.out.mono ?_
              rintro e w4 ⟨a4, c4, rfl, hES4, hb4⟩
              have hfin : Hid (FetPost L2 0 w (.returned (.tuple #[.slice a4 (nl - j) c4, .int .i64 0])) w4) := ⟨a4, c4, by rw [hdl.out], by rw [hdl.out]; exact hES4.imp fun b _ h => Nat.le_trans hb3'.out.size h, hb3'.out.trans (hb4.mono hb3'.out.size)⟩
              clear hES4 hb4 hcl hb3'
              go_wp2_with fail
              go_ret2
              rw [hL2.out]
              exact hfin.out
      · rw [if_neg (by omega)]
        have hgt : (l.length : Int) + 1 < fr := by omega
        go_enter Tryd.func10, Tryd.ntmps10
        go_wp2_with fail
        rw [hsb.out]
        generalize World.alloc w _ = W1 at *
        refine (hop.out _ hb1.out).mono ?_
        rintro e w2 ⟨hb2, ⟨_, bb, rfl, hBk⟩ | ⟨hne, _⟩⟩
        case inr => exact absurd rfl hne
        have hb2' := Lib.hid (hb1.out.trans (hb2.mono hb1.out.size))
        have hen2 := Lib.hid (hen.out bb w2 hBk)
        clear hb2 hop hen hBk hB1 hb1 b0 b1 b2
        go_wp2_with fail
        refine hen2.out.mono ?_
        rintro e w3 ⟨ea, ec, rfl, hES, hb3⟩
        have hb3' := Lib.hid (hb2'.out.trans (hb3.mono hb2'.out.size))
        have hbd := hES.bd
        clear hen2 hb3 hb2' hES
        go_wp2_with fail
        go_ret2
        exact FetPost.err hb3'.out
    · rw [if_neg (fun h => h1 h.1)]
      have hlt : fr < 1 := by omega
      go_enter Tryd.func10, Tryd.ntmps10
      go_wp2_with fail
      rw [hsb.out]
      generalize World.alloc w _ = W1 at *
      refine (hop.out _ hb1.out).mono ?_
      rintro e w2 ⟨hb2, ⟨_, bb, rfl, hBk⟩ | ⟨hne, _⟩⟩
      case inr => exact absurd rfl hne
      have hb2' := Lib.hid (hb1.out.trans (hb2.mono hb1.out.size))
      have hen2 := Lib.hid (hen.out bb w2 hBk)
      clear hb2 hop hen hBk hB1 hb1 b0 b1 b2
      go_wp2_with fail
      refine hen2.out.mono ?_
      rintro e w3 ⟨ea, ec, rfl, hES, hb3⟩
      have hb3' := Lib.hid (hb2'.out.trans (hb3.mono hb2'.out.size))
      clear hen2 hb3 hb2' hES
      go_wp2_with fail
      go_ret2
      exact FetPost.err hb3'.out
  · have hv : Sto.fetchS s f fr = ([], Sto.openE s f) := by simp [Sto.fetchS, hq]
    rw [hv]
    clear hv
    generalize Sto.openE s f = q at *
    have hqq : (q == 0) = false := by simpa using hq
    go_enter Tryd.func10, Tryd.ntmps10
    go_wp2_with fail
    rw [hsb.out]
    generalize World.alloc w _ = W1 at *
    refine (hop.out _ hb1.out).mono ?_
    rintro e w2 ⟨hb2, ⟨h0, _⟩ | ⟨hne, rfl⟩⟩
    case inl => exact absurd h0 hq
    go_wp2_with fail
    go_ret2
    exact FetPost.err (hb1.out.trans (hb2.mono hb1.out.size))
end Go.Proofs.YtgfmdjagamjpbaaDoor
