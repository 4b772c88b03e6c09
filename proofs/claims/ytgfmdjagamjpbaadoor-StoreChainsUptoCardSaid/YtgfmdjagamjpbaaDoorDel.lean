/- store.Delete -/
import Derived.Test.YtgfmdjagamjpbaaDoorPut
namespace Go.Proofs.YtgfmdjagamjpbaaDoor
open Go.RowKit Go.Mem
open Go.Sto (Ent Lg St)

theorem delL_set {l : List Ent} {i : Nat} {e : Ent} (h : l[i]? = some e) : Sto.delL l i = l.set i (Sto.delE e) := by
  apply List.ext_getElem?
  intro j
  rw [Sto.delL_get, List.getElem?_set]
  split
  · rename_i hij
    subst hij
    rw [h, if_pos (List.getElem?_eq_some_iff.1 h).1]
    rfl
  · cases l[j]? <;> rfl
theorem entC_set2 {e : Ent} (h : e.dig.length = 32) (a : Option Addr) (n c : Nat) : ((entC e a n c).set 33 (.slice none 0 0)).set 34 (.bool true) = entC (Sto.delE e) none 0 0 := by
  rw [entC_set h, entC, List.set_cons_succ, List.set_append_right _ _ (by rw [bv_length, h]; omega), bv_length, h]
  rfl

def DelPost (s : St) (q : Int) (w : World) (e : Ending) (w' : World) : Prop :=
  ∃ a c, e = .returned (.tuple #[.agg #[.int .i64 s.id, .int .i64 s.priv, .slice a s.logs.length c], .int .i64 q]) ∧ SV (fun b => w.heap.size ≤ b) w' a s.logs.length c s ∧ Below w.heap.size w w'
theorem DelPost.err {q : Int} {w w' : World} (hb : Below w.heap.size w w') : DelPost Sto.zeroS q w (.returned (.tuple #[.agg #[.int .i64 0, .int .i64 0, .slice none 0 0], .int .i64 q])) w' := ⟨none, 0, rfl, SV.zero _ _, hb⟩
theorem del_ret {W : World} {tb : Nat} {x0 x1 x2 : Value} {e : Int} (hB : Blk W tb 26 [x0, x1, x2]) {a : Act} (hp : a.tmps.getD 6 undef = .pointer (some ⟨tb, 0, none⟩)) (hq : a.tmps.getD 7 undef = .int .i64 e) (hd : a.defers = []) {Post : Ending → World → Prop} (hP : Post (.returned (.tuple #[.agg #[x0, x1, x2], .int .i64 e])) W) :
    bodyPost Tryd.prog Tryd.f19 Post .ret a W := by
  have c0 := hB.at_ (i := 0) rfl
  have c1 := hB.at_ (i := 1) rfl
  have c2 := hB.at_ (i := 2) rfl
  refine bodyPost_ret (v := .tuple #[.agg #[x0, x1, x2], .int .i64 e]) ?_ hd hP
  rw [results_cell_tmp rfl, hp, hq]
  simp [go_sem, c0, c1, c2]
theorem del_fin {w wa w5 : World} {tb : Nat} {s : St} {a : Option Addr} {c : Nat} (q : Int) (hS : SV (fun b => wa.heap.size ≤ b) w5 a s.logs.length c s) (hb : Below w.heap.size w w5) (htb : w.heap.size ≤ tb) (hta : tb < wa.heap.size) :
    DelPost s q w (.returned (.tuple #[.agg #[.int .i64 s.id, .int .i64 s.priv, .slice a s.logs.length c], .int .i64 q])) (((w5.setCell ⟨tb, 0, none⟩ (.int .i64 s.id)).setCell ⟨tb, 1, none⟩ (.int .i64 s.priv)).setCell ⟨tb, 2, none⟩ (.slice a s.logs.length c)) := by
  obtain ⟨a2, c2, h1, h2, h3⟩ := put_fin 0 q hS hb htb hta
  cases h1
  exact ⟨_, _, rfl, h2, h3⟩

/-- y.Data, y.Gone = nil, true in the clone's row. -/
theorem del_es {w w3 : World} {g p c' : Nat} {t : TypeId} {l : List Ent} {rows : List (List Value)} {rest : List Value} {e : Ent}
    (hO : RowsOf 35 (EV (fun _ => True) w) l rows) (hB : Blk w3 g t (rows.flatten ++ rest)) (hg : w.heap.size ≤ g) (hb : Below w.heap.size w w3) (hx : l[p]? = some e) (hn : l.length ≤ 100000) (hc : l.length ≤ c') (hcm : c' ≤ maxLen) :
    ES (fun _ => True) ((w3.setCell ⟨g, p * 35 + 33, none⟩ (.slice none 0 0)).setCell ⟨g, p * 35 + 34, none⟩ (.bool true)) (some ⟨g, 0, none⟩) l.length c' (Sto.delL l p) := by
  rw [delL_set hx]
  have hk : p < rows.length := by rw [hO.len]; exact (List.getElem?_eq_some_iff.1 hx).1
  have hrk : rows[p]? = some rows[p] := List.getElem?_eq_getElem hk
  obtain ⟨ho, a, m, c, er, _⟩ := hO.each p e rows[p] hx hrk
  have hs0 := hO.size _ (List.getElem_mem hk)
  have hkeep : Keeps (fun b => b < w.heap.size) w ((w3.setCell ⟨g, p * 35 + 33, none⟩ (.slice none 0 0)).setCell ⟨g, p * 35 + 34, none⟩ (.bool true)) :=
    ⟨by simpa [World.setCell] using hb.size, fun b hb1 _ => ((Below.heap_setCell _ ⟨g, p * 35 + 34, none⟩ _ b (show b ≠ g by omega)).trans (Below.heap_setCell w3 ⟨g, p * 35 + 33, none⟩ _ b (show b ≠ g by omega))).trans (hb.block b hb1)⟩
  have hO2 : RowsOf 35 (EV (fun _ => True) ((w3.setCell ⟨g, p * 35 + 33, none⟩ (.slice none 0 0)).setCell ⟨g, p * 35 + 34, none⟩ (.bool true))) l rows := hO.imp fun e r h => ((h.imp (K' := fun b => b < w.heap.size) fun b hb _ => hb).keep hkeep).imp fun _ _ _ => trivial
  have hO3 := hO2.set p (e := Sto.delE e) (r := (rows[p].set 33 (.slice none 0 0)).set 34 (.bool true)) ⟨⟨ho.dig, ho.lt, ho.lo, ho.hi, Nat.zero_le _⟩, none, 0, 0, by rw [er, entC_set2 ho.dig], BK.of ⟨rfl, Nat.le_refl _, by omega, fun _ => ⟨rfl, rfl⟩, fun ad e => (by cases e), by simp [Sto.delE]⟩ (fun _ _ => trivial)⟩ (by rw [List.length_set, List.length_set]; exact hs0)
  have hfl := flat_len hO.size
  have hB2 := (hB.set (p * 35 + 33) (.slice none 0 0)).set (p * 35 + 34) (.bool true)
  rw [List.set_append_left _ _ (by omega), List.set_append_left _ _ (by rw [List.length_set]; omega)] at hB2
  have e1 : (rows.set p (rows[p].set 33 (.slice none 0 0))).flatten = rows.flatten.set (p * 35 + 33) (.slice none 0 0) := flat_set _ hO.size hrk (by omega)
  have hsz : ∀ r ∈ rows.set p (rows[p].set 33 (.slice none 0 0)), r.length = 35 := fun r hr => by
    rcases List.mem_or_eq_of_mem_set hr with hr | rfl
    · exact hO.size r hr
    · rw [List.length_set]; exact hs0
  have e2 := flat_set (rows := rows.set p (rows[p].set 33 (.slice none 0 0))) (i := p) (j := 34) (r := rows[p].set 33 (.slice none 0 0)) (.bool true) hsz (List.getElem?_set_self hk) (by omega)
  rw [List.set_set, e1] at e2
  refine ⟨⟨by simp, fun _ _ _ => trivial, _, ⟨by rw [hO3.flat, List.length_set], hc, hcm, fun e => (by cases e), fun _ => ⟨g, 0, rfl, hB2.lt, fun j u hj => hB2.at_ ?_⟩⟩, hO3⟩, hn⟩
  rw [e2] at hj
  rw [Nat.zero_add, List.getElem?_append_left (List.getElem?_eq_some_iff.1 hj).1]
  exact hj

set_option maxRecDepth 20000 in
set_option maxHeartbeats 4000000 in
theorem Delete_any (a : Option Addr) (n c : Nat) (s : St) (f no : Int) (hf : I64 f) (hno : I64 no) (w : World) (HT : Tabs w) (H : SV (fun _ => True) w a n c s) :
    Calls Tryd.prog 19 #[.agg #[.int .i64 s.id, .int .i64 s.priv, .slice a n c], .int .i64 f, .int .i64 no] w (DelPost (Sto.delS s f no).1 (Sto.delS s f no).2 w) := by
  have HT' := Lib.hid HT; have H' := Lib.hid H
  clear HT H
  obtain ⟨n0, n1⟩ := hno
  obtain ⟨sb, hsb⟩ : ∃ sb, Hid (w.heap.size = sb) := ⟨_, rfl⟩
  obtain ⟨W1, hW1⟩ : ∃ W, Hid ((w.alloc (.cells #[.int .i64 s.id, .int .i64 s.priv, .slice a n c] 26)).alloc (.cells #[.int .i64 0, .int .i64 0, .slice none 0 0] 26) = W) := ⟨_, rfl⟩
  have hsB : Hid (Blk W1 sb 26 (stC s a n c)) := by rw [← hW1.out, ← hsb.out]; exact (Blk.new w _ (stC s a n c)).alloc _
  have htB : Hid (Blk W1 (sb + 1) 26 [.int .i64 0, .int .i64 0, .slice none 0 0]) := by
    have := Blk.new (w.alloc (.cells #[.int .i64 s.id, .int .i64 s.priv, .slice a n c] 26)) 26 [.int .i64 0, .int .i64 0, .slice none 0 0]
    rw [show (w.alloc (.cells #[.int .i64 s.id, .int .i64 s.priv, .slice a n c] 26)).heap.size = sb + 1 by rw [← hsb.out]; simp] at this
    rw [← hW1.out]; exact this
  have hb1 : Hid (Below w.heap.size w W1) := by rw [← hW1.out]; exact ((Below.refl _ w).alloc (Nat.le_refl _) _).alloc (by simp) _
  have hop := Lib.hid (fun W (hW : Below w.heap.size w W) => open_any (fun _ => True) a n c s f W (HT'.out.below hW) (H'.out.below hW))
  have b0 := hsB.out.at_ (i := 0) rfl
  have b1 := hsB.out.at_ (i := 1) rfl
  have b2 := hsB.out.at_ (i := 2) rfl
  have hle : Hid (w.heap.size ≤ sb + 1) := by show _ ≤ _; rw [hsb.out]; omega
  by_cases hq : Sto.openE s f = 0
  · have hlb : Sto.logsB (-1) s.logs = true := (Sto.chkS_iff s).1 ((Sto.openE_iff s f).1 hq).1 |>.2
    rw [hq] at hop
    have hen := Lib.hid (fun bb W hW => entries_any (fun _ => True) bb s f W hW hlb)
    have hlb' := Lib.hid hlb
    have hvs := Lib.hid (show Sto.delS s f no = (if 1 ≤ no ∧ no ≤ (Sto.ents s f).length then (match (Sto.ents s f)[(no - 1).toNat]? with | some e => if e.kind = 4 then (Sto.replS s f (Sto.delL (Sto.ents s f) (no - 1).toNat), 0) else (Sto.zeroS, 300) | none => (Sto.zeroS, 1)) else (Sto.zeroS, 1) : St × Int) by unfold Sto.delS; rw [if_pos hq]; rfl)
    obtain ⟨X, hX⟩ : ∃ X, Hid (Sto.delS s f no = X) := ⟨_, rfl⟩
    rw [hX.out] at hvs ⊢
    clear hq hlb
    generalize Sto.ents s f = l at *
    by_cases h1 : 1 ≤ no
    · by_cases h2 : no ≤ l.length
      · obtain ⟨j, hj⟩ : ∃ j : Nat, no - 1 = (j : Int) := ⟨(no - 1).toNat, by omega⟩
        have hjl : j < l.length := by omega
        obtain ⟨x, hx⟩ : ∃ x, l[j]? = some x := ⟨_, List.getElem?_eq_getElem hjl⟩
        have hjw : IntKind.i64.wrap (j : Int) = (j : Int) := IntWalk.i64_in _ (by have := hf.2; omega)
        have hX1 := hvs.out
        rw [if_pos ⟨h1, h2⟩, hj, Int.toNat_natCast, hx] at hX1
        simp only [] at hX1
        have hd1 : decide (no < 1) = false := decide_eq_false (by omega)
        have hd2 : decide ((l.length : Int) < no) = false := decide_eq_false (by omega)
        have hX2 := Lib.hid hX1
        have hx' := Lib.hid hx
        clear hvs hX1 hx
        go_enter Tryd.func19, Tryd.ntmps19
        go_wp2_with fail
        rw [hsb.out, hW1.out]
        refine (hop.out _ hb1.out).mono ?_
        rintro e w2 ⟨hb2, ⟨_, bb, rfl, hBk⟩ | ⟨hne, _⟩⟩
        case inr => exact absurd rfl hne
        have htB2 := Lib.hid (htB.out.below hb2 htB.out.lt)
        have hb2' := Lib.hid (hb1.out.trans (hb2.mono hb1.out.size))
        have hBk' := Lib.hid hBk
        have hen2 := Lib.hid (hen.out bb w2 hBk)
        clear hb2 hBk hop htB hb1 hsB b0 b1 b2 hen
        go_wp2_with fail
        refine hen2.out.mono ?_
        rintro e w3 ⟨ea, ec, rfl, hES, hb3⟩
        have hb3' := Lib.hid (hb2'.out.trans (hb3.mono hb2'.out.size))
        have htB3 := Lib.hid (htB2.out.below hb3 htB2.out.lt)
        have hBk3 := Lib.hid (hBk'.out.below hb3)
        obtain ⟨rows, hRd, hRo⟩ := hES.rs.rows
        have hRo' := Lib.hid hRo
        have hbd := hES.bd
        have hcl := Lib.hid (cloneE_any ea l.length ec rows.flatten w3 hRd (rows_one hRo fun _ _ h => EV.one h) (by omega))
        clear hen2 hb3 hb2' htB2 hBk' hES hRd hRo
        go_wp2_with fail
        refine hcl.out.mono ?_
        rintro e w4 ⟨v, rfl, hown, hb4⟩
        have hb4' := Lib.hid (hb3'.out.trans (hb4.mono hb3'.out.size))
        have hb34 := Lib.hid hb4
        have htB4 := Lib.hid (htB3.out.below hb4 htB3.out.lt)
        have hBk4 := Lib.hid (hBk3.out.below hb4)
        have hb3s := hb3'.out.size
        have htl := htB3.out.lt
        clear hcl hb4 htB3
        obtain ⟨g, cap, rest, hv, hg, hgl, hgb, hcap, hcm, _⟩ := Sl.owns_row hown (by omega)
        subst hv
        have hBg : Hid (Blk w4 g 48 (rows.flatten ++ rest)) := hgb
        obtain ⟨r, hr, ⟨ho, ra, rn, rc, er, _⟩, _, hfl⟩ := hRo'.out.get hx'.out
        have cell : ∀ (q : Nat) u, r[q]? = some u → w4.cell? ⟨g, j * 35 + q, none⟩ = some u := fun q u hu => hBg.out.at_ (by
          have h1 := hfl q u hu
          rw [List.getElem?_append_left (List.getElem?_eq_some_iff.1 h1).1]
          exact h1)
        have c0 : w4.cell? ⟨g, j * 35, none⟩ = some (.int .i64 x.kind) := cell 0 _ (by rw [er]; rfl)
        have c33 := cell 33 _ (by rw [er]; exact entC_data ho.dig _ _ _)
        have c34 := cell 34 _ (by rw [er]; exact entC_gone ho.dig _ _ _)
        have f33 := hBg.out.frozen (j * 35 + 33)
        have f34 := hBg.out.frozen (j * 35 + 34)
        have hjn : j < l.length := hjl
        have j0 : (0 : Int) ≤ (j : Int) := by omega
        have j1 : (j : Int) < (l.length : Int) := by omega
        have hdes := Lib.hid (fun hn => del_es hRo'.out hBg.out hg hb34.out hx'.out hn hcap hcm)
        have hlt4 := htB4.out.lt
        have hgne : sb + 1 ≠ g := by omega
        clear hown hgb cell hfl er hr ho
        by_cases hk4 : x.kind = 4
        · have hXe : Hid (X = (Sto.replS s f (Sto.delL l j), 0)) := by show _ = _; rw [hX2.out, if_pos hk4]
          rw [hk4] at c0
          have hES5 := hdes.out (by omega)
          have hb45 : Below w3.heap.size w3 ((w4.setCell ⟨g, j * 35 + 33, none⟩ (.slice none 0 0)).setCell ⟨g, j * 35 + 34, none⟩ (.bool true)) := (hb34.out.setCell hg _).setCell hg _
          have hrp := Lib.hid (replace_any bb s f hf (some ⟨g, 0, none⟩) l.length cap _ _ (hBk3.out.below hb45) hlb'.out hES5)
          have hb5 : Hid (Below w.heap.size w ((w4.setCell ⟨g, j * 35 + 33, none⟩ (.slice none 0 0)).setCell ⟨g, j * 35 + 34, none⟩ (.bool true))) := (hb4'.out.setCell (by show _ ≤ g; omega) _).setCell (by show _ ≤ g; omega) _
          have htB5 : Hid (Blk ((w4.setCell ⟨g, j * 35 + 33, none⟩ (.slice none 0 0)).setCell ⟨g, j * 35 + 34, none⟩ (.bool true)) (sb + 1) 26 [.int .i64 0, .int .i64 0, .slice none 0 0]) := (htB4.out.far (by exact hgne) _).far (by exact hgne) _
          have c34' : (w4.setCell ⟨g, j * 35 + 33, none⟩ (.slice none 0 0)).cell? ⟨g, j * 35 + 34, none⟩ = some (.bool x.gone) := by
            rw [World.cell?_setCell_other _ _ _ _ (by simp)]; exact c34
          have f34' : (w4.setCell ⟨g, j * 35 + 33, none⟩ (.slice none 0 0)).frozen? ⟨g, j * 35 + 34, none⟩ = false := (World.frozen?_setCell _ _ _ _).trans f34
          clear hdes hES5 hb45 hX2 hBg hb4' hb34 htB4 hBk4 hBk3 hx'
          go_wp2_with fail
          refine hrp.out.mono ?_
          rintro e w8 ⟨a8, c8, rfl, hS8, hb8⟩
          have htB8 := htB5.out.below hb8 htB5.out.lt
          have t0 := htB8.at_ (i := 0) rfl
          have t1 := htB8.at_ (i := 1) rfl
          have t2 := htB8.at_ (i := 2) rfl
          have u0 := htB8.frozen 0
          have u1 := htB8.frozen 1
          have u2 := htB8.frozen 2
          have hfin := Lib.hid (del_fin 0 hS8 (hb5.out.trans (hb8.mono hb5.out.size)) hle.out htB5.out.lt)
          have htB8' := Lib.hid htB8
          clear htB8 hS8 hb8 hrp
          go_wp2_with fail
          refine del_ret (copied_set htB8'.out _ _ _) rfl rfl rfl ?_
          rw [hXe.out]
          exact hfin.out
        · have hXe : Hid (X = (Sto.zeroS, 300)) := by show _ = _; rw [hX2.out, if_neg hk4]
          have hkk : (x.kind == 4) = false := by simpa using hk4
          clear hX2 hk4 hdes c33 c34 f33 f34
          have t0 := htB4.out.at_ (i := 0) rfl
          have t1 := htB4.out.at_ (i := 1) rfl
          have t2 := htB4.out.at_ (i := 2) rfl
          have u0 := htB4.out.frozen 0
          have u1 := htB4.out.frozen 1
          have u2 := htB4.out.frozen 2
          go_wp2_with fail
          refine del_ret (copied_set htB4.out _ _ _) rfl rfl rfl ?_
          rw [hXe.out]
          exact DelPost.err (((hb4'.out.setCell hle.out _).setCell hle.out _).setCell hle.out _)
      · have hXe : Hid (X = (Sto.zeroS, 1)) := by show _ = _; rw [hvs.out, if_neg (fun h => h2 h.2)]
        rw [hXe.out]
        have hgt : (l.length : Int) < no := by omega
        clear hvs hXe
        go_enter Tryd.func19, Tryd.ntmps19
        go_wp2_with fail
        rw [hsb.out, hW1.out]
        refine (hop.out _ hb1.out).mono ?_
        rintro e w2 ⟨hb2, ⟨_, bb, rfl, hBk⟩ | ⟨hne, _⟩⟩
        case inr => exact absurd rfl hne
        have htB2 := Lib.hid (htB.out.below hb2 htB.out.lt)
        have hb2' := Lib.hid (hb1.out.trans (hb2.mono hb1.out.size))
        have hBk' := Lib.hid hBk
        have hen2 := Lib.hid (hen.out bb w2 hBk)
        clear hb2 hBk hop htB hb1 hsB b0 b1 b2 hen
        go_wp2_with fail
        refine hen2.out.mono ?_
        rintro e w3 ⟨ea, ec, rfl, hES, hb3⟩
        have hb3' := Lib.hid (hb2'.out.trans (hb3.mono hb2'.out.size))
        have htB3 := Lib.hid (htB2.out.below hb3 htB2.out.lt)
        have hBk3 := Lib.hid (hBk'.out.below hb3)
        obtain ⟨rows, hRd, hRo⟩ := hES.rs.rows
        have hRo' := Lib.hid hRo
        have hbd := hES.bd
        have hcl := Lib.hid (cloneE_any ea l.length ec rows.flatten w3 hRd (rows_one hRo fun _ _ h => EV.one h) (by omega))
        clear hen2 hb3 hb2' htB2 hBk' hES hRd hRo
        go_wp2_with fail
        refine hcl.out.mono ?_
        rintro e w4 ⟨v, rfl, hown, hb4⟩
        have hb4' := Lib.hid (hb3'.out.trans (hb4.mono hb3'.out.size))
        have hb34 := Lib.hid hb4
        have htB4 := Lib.hid (htB3.out.below hb4 htB3.out.lt)
        have hBk4 := Lib.hid (hBk3.out.below hb4)
        have hb3s := hb3'.out.size
        have htl := htB3.out.lt
        clear hcl hb4 htB3 hBk3
        obtain ⟨va, vc, rfl, _, _⟩ := Sl.of_owns hown
        clear hown
        have t0 := htB4.out.at_ (i := 0) rfl
        have t1 := htB4.out.at_ (i := 1) rfl
        have t2 := htB4.out.at_ (i := 2) rfl
        have u0 := htB4.out.frozen 0
        have u1 := htB4.out.frozen 1
        have u2 := htB4.out.frozen 2
        go_wp2_with fail
        exact del_ret (copied_set htB4.out _ _ _) rfl rfl rfl (DelPost.err (((hb4'.out.setCell hle.out _).setCell hle.out _).setCell hle.out _))
    · have hXe : Hid (X = (Sto.zeroS, 1)) := by show _ = _; rw [hvs.out, if_neg (fun h => h1 h.1)]
      rw [hXe.out]
      have hlt : no < 1 := by omega
      clear hvs hXe
      go_enter Tryd.func19, Tryd.ntmps19
      go_wp2_with fail
      rw [hsb.out, hW1.out]
      refine (hop.out _ hb1.out).mono ?_
      rintro e w2 ⟨hb2, ⟨_, bb, rfl, hBk⟩ | ⟨hne, _⟩⟩
      case inr => exact absurd rfl hne
      have htB2 := Lib.hid (htB.out.below hb2 htB.out.lt)
      have hb2' := Lib.hid (hb1.out.trans (hb2.mono hb1.out.size))
      have hBk' := Lib.hid hBk
      have hen2 := Lib.hid (hen.out bb w2 hBk)
      clear hb2 hBk hop htB hb1 hsB b0 b1 b2 hen
      go_wp2_with fail
      refine hen2.out.mono ?_
      rintro e w3 ⟨ea, ec, rfl, hES, hb3⟩
      have hb3' := Lib.hid (hb2'.out.trans (hb3.mono hb2'.out.size))
      have htB3 := Lib.hid (htB2.out.below hb3 htB2.out.lt)
      have hBk3 := Lib.hid (hBk'.out.below hb3)
      obtain ⟨rows, hRd, hRo⟩ := hES.rs.rows
      have hRo' := Lib.hid hRo
      have hbd := hES.bd
      have hcl := Lib.hid (cloneE_any ea l.length ec rows.flatten w3 hRd (rows_one hRo fun _ _ h => EV.one h) (by omega))
      clear hen2 hb3 hb2' htB2 hBk' hES hRd hRo
      go_wp2_with fail
      refine hcl.out.mono ?_
      rintro e w4 ⟨v, rfl, hown, hb4⟩
      have hb4' := Lib.hid (hb3'.out.trans (hb4.mono hb3'.out.size))
      have hb34 := Lib.hid hb4
      have htB4 := Lib.hid (htB3.out.below hb4 htB3.out.lt)
      have hBk4 := Lib.hid (hBk3.out.below hb4)
      have hb3s := hb3'.out.size
      have htl := htB3.out.lt
      clear hcl hb4 htB3 hBk3
      obtain ⟨va, vc, rfl, _, _⟩ := Sl.of_owns hown
      clear hown
      have t0 := htB4.out.at_ (i := 0) rfl
      have t1 := htB4.out.at_ (i := 1) rfl
      have t2 := htB4.out.at_ (i := 2) rfl
      have u0 := htB4.out.frozen 0
      have u1 := htB4.out.frozen 1
      have u2 := htB4.out.frozen 2
      go_wp2_with fail
      exact del_ret (copied_set htB4.out _ _ _) rfl rfl rfl (DelPost.err (((hb4'.out.setCell hle.out _).setCell hle.out _).setCell hle.out _))
  · have hv : Sto.delS s f no = (Sto.zeroS, Sto.openE s f) := by simp [Sto.delS, hq]
    rw [hv]
    clear hv
    generalize Sto.openE s f = q at *
    have hqq : (q == 0) = false := by simpa using hq
    go_enter Tryd.func19, Tryd.ntmps19
    go_wp2_with fail
    rw [hsb.out, hW1.out]
    refine (hop.out _ hb1.out).mono ?_
    rintro e w2 ⟨hb2, ⟨h0, _⟩ | ⟨hne, rfl⟩⟩
    case inl => exact absurd h0 hq
    have htB2 := Lib.hid (htB.out.below hb2 htB.out.lt)
    have t0 := htB2.out.at_ (i := 0) rfl
    have t1 := htB2.out.at_ (i := 1) rfl
    have t2 := htB2.out.at_ (i := 2) rfl
    have u0 := htB2.out.frozen 0
    have u1 := htB2.out.frozen 1
    have u2 := htB2.out.frozen 2
    have hb2' := Lib.hid (hb1.out.trans (hb2.mono hb1.out.size))
    clear hb2 hop htB hb1 hsB b0 b1 b2
    go_wp2_with fail
    exact del_ret (copied_set htB2.out _ _ _) rfl rfl rfl (DelPost.err (((hb2'.out.setCell hle.out _).setCell hle.out _).setCell hle.out _))
end Go.Proofs.YtgfmdjagamjpbaaDoor
