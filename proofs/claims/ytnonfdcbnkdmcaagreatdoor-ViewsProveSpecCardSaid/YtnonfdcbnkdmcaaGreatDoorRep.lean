/- (*store.book).replace -/
import Derived.Test.YtnonfdcbnkdmcaaGreatDoorAl
import Derived.Test.YtnonfdcbnkdmcaaGreatDoorBsf
namespace Go.Proofs.YtnonfdcbnkdmcaaGreatDoor
open Go.RowKit Go.Mem
open Go.Sto (Ent Lg St)

theorem logsB_len : ∀ {L : List Lg} {p : Int}, Sto.logsB p L = true → p ≤ 15 → (L.length : Int) ≤ 15 - p
 | [], p, _, hp => by simp; omega
 | x :: r, p, h, hp => by
  rw [Sto.logsB_cons] at h
  have hf := h.1
  unfold Sto.folderB at hf
  rw [decide_eq_true_iff] at hf
  have := logsB_len h.2.2.2 (by omega)
  rw [List.length_cons]
  omega

theorem repl_set {w w3 : World} {g p n c' n' cc : Nat} {t : TypeId} {L : List Lg} {l : List Ent} {rows : List (List Value)} {rest : List Value} {x : Lg} {a' : Option Addr}
 (hO : RowsOf 2 (LV (fun _ => True) w) L rows) (hB : Blk w3 g t (rows.flatten ++ rest)) (hg : w.heap.size ≤ g) (hb : Below w.heap.size w w3) (hx : L[p]? = some x) (HE : ES (fun _ => True) w a' n' cc l) (hL : L.length = n) (hn : n ≤ 100000) (hc : n ≤ c') (hcm : c' ≤ maxLen) :
 LS (fun _ => True) (w3.setCell ⟨g, p * 2 + 1, none⟩ (.slice a' n' cc)) (some ⟨g, 0, none⟩) n c' (L.set p ⟨x.folder, l⟩) := by
 have hk : p < rows.length := by rw [hO.len]; exact (List.getElem?_eq_some_iff.1 hx).1
 have hrk : rows[p]? = some rows[p] := List.getElem?_eq_getElem hk
 obtain ⟨hf, a, m, c, er, _⟩ := hO.each p x rows[p] hx hrk
 have hkeep : Keeps (fun b => b < w.heap.size) w (w3.setCell ⟨g, p * 2 + 1, none⟩ (.slice a' n' cc)) :=
  ⟨by simpa [World.setCell] using hb.size, fun b hb1 _ => (Below.heap_setCell w3 ⟨g, p * 2 + 1, none⟩ _ b (show b ≠ g by omega)).trans (hb.block b hb1)⟩
 have hO2 : RowsOf 2 (LV (fun _ => True) (w3.setCell ⟨g, p * 2 + 1, none⟩ (.slice a' n' cc))) L rows := hO.imp fun e r h => ((h.imp (K' := fun b => b < w.heap.size) fun b hb _ => hb).keep hkeep).imp fun _ _ _ => trivial
 have hHE : ES (fun _ => True) (w3.setCell ⟨g, p * 2 + 1, none⟩ (.slice a' n' cc)) a' n' cc l := ((HE.imp (K' := fun b => b < w.heap.size) fun b hb _ => hb).keep hkeep).imp fun _ _ _ => trivial
 have hO3 := hO2.set p (e := ⟨x.folder, l⟩) (r := rows[p].set 1 (.slice a' n' cc)) ⟨hf, a', n', cc, by rw [er]; rfl, hHE⟩ (by rw [List.length_set]; exact hO.size _ (List.getElem_mem hk))
 have hB2 := hB.set (p * 2 + 1) (.slice a' n' cc)
 rw [List.set_append_left _ _ (by rw [flat_len hO.size]; omega)] at hB2
 refine ⟨⟨by rw [List.length_set, hL], fun _ _ _ => trivial, _, ⟨by rw [hO3.flat, List.length_set, hL], hc, hcm, fun e => (by cases e), fun _ => ⟨g, 0, rfl, hB2.lt, fun j u hj => hB2.at_ ?_⟩⟩, hO3⟩, hn⟩
 rw [flat_set _ hO.size hrk (by omega)] at hj
 rw [Nat.zero_add, List.getElem?_append_left (List.getElem?_eq_some_iff.1 hj).1]
 exact hj

theorem repl_ins {w w5 : World} {B p n n' cc : Nat} {L : List Lg} {l : List Ent} {rows : List (List Value)} {f : Int} {a' : Option Addr} {v : Value}
 (hO : RowsOf 2 (LV (fun _ => True) w) L rows) (hf : I64 f) (HE : ES (fun _ => True) w a' n' cc l) (hb : Below w.heap.size w w5) (hL : L.length = n) (hn : n + 1 ≤ 100000)
 (hown : w5.ownsRow B 121 2 v (n + 1) (rows.flatten.take (p * 2) ++ logC f a' n' cc ++ rows.flatten.drop (p * 2))) :
 ∃ a2 c2, v = .slice a2 (n + 1) c2 ∧ LS (fun b => b < w.heap.size ∨ B ≤ b) w5 a2 (n + 1) c2 (L.take p ++ [⟨f, l⟩] ++ L.drop p) := by
 obtain ⟨a2, c2, rfl, hR, hsep⟩ := Sl.of_owns hown
 have hO2 : RowsOf 2 (LV (fun b => b < w.heap.size ∨ B ≤ b) w5) L rows := hO.imp fun e r h => (h.imp fun b hb _ => Or.inl hb).keep (.below hb)
 have hO3 := ((hO2.take p).append (RowsOf.one (e := (⟨f, l⟩ : Lg)) (r := logC f a' n' cc) ⟨hf, a', n', cc, rfl, (HE.imp fun b hb _ => Or.inl hb).below hb⟩ rfl)).append (hO2.drop p)
 refine ⟨a2, c2, rfl, ⟨?_, fun _ ad e => .inr (hsep ad e).1, _, ?_, hO3⟩, hn⟩
 · simp only [List.length_append, List.length_take, List.length_drop, List.length_singleton]; omega
 · rw [List.flatten_append, List.flatten_append, flat_take p hO.size, flat_drop p hO.size, List.flatten_singleton]
   exact hR

theorem store_fin {w wa w5 : World} {tb : Nat} {s : St} {a : Option Addr} {c : Nat} (hS : SV (fun b => wa.heap.size ≤ b) w5 a s.logs.length c s) (hb : Below w.heap.size w w5) (htb : w.heap.size ≤ tb) (hta : tb < wa.heap.size) (_hwa : w.heap.size ≤ wa.heap.size) :
 StPost s w (.returned (.agg #[.int .i64 s.id, .int .i64 s.priv, .slice a s.logs.length c])) (((w5.setCell ⟨tb, 0, none⟩ (.int .i64 s.id)).setCell ⟨tb, 1, none⟩ (.int .i64 s.priv)).setCell ⟨tb, 2, none⟩ (.slice a s.logs.length c)) :=
 ⟨a, c, rfl, ((hS.imp (K' := fun b => w.heap.size ≤ b ∧ b ≠ tb) fun b _ h => ⟨by omega, by omega⟩).keep (copied_keeps _ _ _ _ _)).imp fun b _ h => h.1, ((hb.setCell htb _).setCell htb _).setCell htb _⟩

set_option maxRecDepth 20000 in
set_option maxHeartbeats 2000000 in
theorem replace_any (bb : Nat) (s : St) (f : Int) (hf : I64 f) (a : Option Addr) (n c : Nat) (l : List Ent) (w : World) (H : Book (fun _ => True) w bb s) (hs : Sto.logsB (-1) s.logs = true) (HE : ES (fun _ => True) w a n c l) :
 Calls Tryz.prog 76 #[.pointer (some ⟨bb, 0, none⟩), .int .i64 f, .slice a n c] w (StPost (Sto.replS s f l) w) := by
 obtain ⟨bt, la, ln, lc, hB, hS⟩ := H.ex
 have b0 : ∀ o, (w.alloc o).cell? ⟨bb, 0, none⟩ = some (.int .i64 s.id) := fun o => (hB.alloc o).at_ (i := 0) rfl
 have b1 : ∀ o, (w.alloc o).cell? ⟨bb, 1, none⟩ = some (.int .i64 s.priv) := fun o => (hB.alloc o).at_ (i := 1) rfl
 have b2 : ∀ o, (w.alloc o).cell? ⟨bb, 2, none⟩ = some (.slice la ln lc) := fun o => (hB.alloc o).at_ (i := 2) rfl
 have b3 : ∀ o o', ((w.alloc o).alloc o').cell? ⟨bb, 2, none⟩ = some (.slice la ln lc) := fun o o' => ((hB.alloc o).alloc o').at_ (i := 2) rfl
 obtain ⟨rows, hR, hO⟩ := hS.ls.rs.rows
 have hbd := hS.ls.bd
 obtain ⟨tb, htb⟩ : ∃ tb, Hid (w.heap.size = tb) := ⟨_, rfl⟩
 go_enter Tryz.func76, Tryz.ntmps76
 go_wp2_with fail
 rw [htb.out]
 obtain ⟨W, hW⟩ : ∃ W, W = (w.alloc (.cells #[.int .i64 0, .int .i64 0, .slice none 0 0] 24)).alloc (.cells #[.int .i64 s.id, .int .i64 s.priv, .slice la ln lc] 24) := ⟨_, rfl⟩
 have htB : Hid (Blk W tb 24 [.int .i64 0, .int .i64 0, .slice none 0 0]) := by rw [hW, ← htb.out]; exact (Blk.new w _ _).alloc _
 have hxB : Hid (Blk W (tb + 1) 24 (stC s la ln lc)) := by
  have := Blk.new (w.alloc (.cells #[.int .i64 0, .int .i64 0, .slice none 0 0] 24)) 24 (stC s la ln lc)
  rw [show (w.alloc (.cells #[.int .i64 0, .int .i64 0, .slice none 0 0] 24)).heap.size = tb + 1 by rw [← htb.out]; simp] at this
  rw [hW]; exact this
 have hb : Hid (Below w.heap.size w W) := by rw [hW]; exact ((Below.refl _ w).alloc (Nat.le_refl _) _).alloc (by simp) _
 rw [← hW]
 have hWs : Hid (W.heap.size = tb + 1 + 1) := by show _ = _; rw [hW, ← htb.out]; simp
 clear hW b0 b1 b2 b3
 have hcl := Lib.hid (cloneL_any la ln lc rows.flatten W (hR.below hb.out (Nat.le_refl _)) (rows_one hO fun _ _ h => LV.one h) (by omega))
 refine hcl.out.mono ?_
 rintro e w1 ⟨v, rfl, hown, hb1⟩
 have hb1' := Lib.hid (hb.out.trans (hb1.mono hb.out.size))
 have hxB1 := hxB.out.below hb1 hxB.out.lt
 have htB1 := Lib.hid (htB.out.below hb1 htB.out.lt)
 have x2 := hxB1.at_ (i := 2) rfl
 have y2 := hxB1.frozen 2
 have hxB1' := Lib.hid hxB1
 obtain ⟨a', c', hv, _, hsep⟩ := Sl.of_owns hown
 have hown' := Lib.hid hown
 have n63 : (ln : Int) ≤ 100000 := by omega
 have hlen := hS.ls.rs.len
 have hws1 := Lib.hid hb1.size
 clear hcl hown hxB1 hxB htB hb hb1
 go_wp2_with fail
 have hxB2 : Hid (Blk (w1.setCell ⟨tb + 1, 2, none⟩ v) (tb + 1) 24 (stC s a' ln c')) := by rw [hv]; exact hxB1'.out.set 2 _
 have htB2 : Hid (Blk (w1.setCell ⟨tb + 1, 2, none⟩ v) tb 24 [.int .i64 0, .int .i64 0, .slice none 0 0]) := htB1.out.far (by simp) _
 have hb2 : Hid (Below w.heap.size w (w1.setCell ⟨tb + 1, 2, none⟩ v)) := hb1'.out.setCell (by have := htb.out; show _ ≤ tb + 1; omega) _
 have hown2 : Hid ((w1.setCell ⟨tb + 1, 2, none⟩ v).ownsRow W.heap.size 121 2 v ln rows.flatten) := by
  have h1 := Sl.of_owns hown'.out
  refine World.ownsRow.kept hown'.out (grown_set (World.grownBy.refl w1 (some (tb + 1))) (.inl rfl) v) (.inr fun e => ?_)
  have := (World.ownsRow.lt hown'.out _ e).1
  have := hWs.out
  omega
 clear hxB1' htB1 hb1' hown' hsep x2 y2
 subst hv
 generalize World.setCell w1 _ _ = w2 at *
 have hlog := Lib.hid (log_any (fun _ => True) bb s f w2 (H.below hb2.out) hs)
 refine hlog.out.mono ?_
 rintro e w3 ⟨rfl, hb3⟩
 have hxB3 := hxB2.out.below hb3 hxB2.out.lt
 have htB3 := Lib.hid (htB2.out.below hb3 htB2.out.lt)
 have hb3' := Lib.hid (hb2.out.trans (hb3.mono hb2.out.size))
 have hown3 := Lib.hid (Sl.owns_below hown2.out hb3 (Nat.le_refl _))
 have x2 := hxB3.at_ (i := 2) rfl
 have hxB3' := Lib.hid hxB3
 clear hxB3 htB2 hb3 hb2 hown2 hlog hxB2
 cases hh : Sto.has f s.logs with
 | true =>
  have hx := Sto.has_at f s.logs
  rw [hh] at hx
  cases hgx : s.logs[Sto.pos f s.logs]? with
  | none => rw [hgx] at hx; cases hx
  | some x =>
   rw [hgx] at hx
   have hxf : x.folder = f := of_decide_eq_true hx.symm
   have hins : Sto.insL f l s.logs = s.logs.set (Sto.pos f s.logs) ⟨x.folder, l⟩ := by rw [Sto.insL_has l hh, hxf]
   have hpl := (List.getElem?_eq_some_iff.1 hgx).1
   have hrep : Hid (Sto.replS s f l = ⟨s.id, s.priv, s.logs.set (Sto.pos f s.logs) ⟨x.folder, l⟩⟩) := by show _ = _; rw [Sto.replS, hins]
   generalize Sto.pos f s.logs = p at *
   have hpos : 0 < ln := by omega
   obtain ⟨g, cap, rest, hv, hg, hgl, hgb, hcap, hcm, hl2⟩ := Sl.owns_row hown3.out hpos
   cases hv
   have hgw : w.heap.size ≤ g := by have := hWs.out; have := htb.out; omega
   have hgt : g ≠ tb + 1 ∧ g ≠ tb := by have := hWs.out; omega
   have hLS := repl_set (w3 := w3) hO (t := 121) (rest := rest) hgb hgw hb3'.out hgx HE hlen hbd hcap hcm
   obtain ⟨r, hr, ⟨_, ra, rn, rc, er, _⟩, _, hfl⟩ := hO.get hgx
   have hBg : Blk w3 g 121 (rows.flatten ++ rest) := hgb
   have c1 : w3.cell? ⟨g, p * 2 + 1, none⟩ = some (.slice ra rn rc) := by
    have h1 := hfl 1 (.slice ra rn rc) (by rw [er]; rfl)
    refine hBg.at_ ?_
    rw [List.getElem?_append_left (List.getElem?_eq_some_iff.1 h1).1]
    exact h1
   have f1 := hBg.frozen (p * 2 + 1)
   have hx4 : Blk (w3.setCell ⟨g, p * 2 + 1, none⟩ (.slice a n c)) (tb + 1) 24 (stC s (some ⟨g, 0, none⟩) ln c') := hxB3'.out.far (Ne.symm hgt.1) _
   have q0 := hx4.at_ (i := 0) rfl
   have q1 := hx4.at_ (i := 1) rfl
   have q2 := hx4.at_ (i := 2) rfl
   have ht4 : Hid (Blk (w3.setCell ⟨g, p * 2 + 1, none⟩ (.slice a n c)) tb 24 [.int .i64 0, .int .i64 0, .slice none 0 0]) := htB3.out.far (Ne.symm hgt.2) _
   have hb4 : Hid (Below w.heap.size w (w3.setCell ⟨g, p * 2 + 1, none⟩ (.slice a n c))) := hb3'.out.setCell hgw _
   have hcop := copied_any (fun _ => True) (some ⟨g, 0, none⟩) ln c' ⟨s.id, s.priv, s.logs.set p ⟨x.folder, l⟩⟩ _ ⟨hLS, hS.id, hS.priv⟩
   rw [← hrep.out] at hcop
   have hcop' := Lib.hid hcop
   have p0 : (0 : Int) ≤ (p : Int) := by omega
   have p1 : (p : Int) < (ln : Int) := by omega
   clear hcop hLS hx4 hBg hfl er hr hgb hown3 hxB3' htB3 hb3' hx hgx hins hl2
   go_wp2_with fail
   generalize World.setCell w3 _ _ = w4 at *
   refine hcop'.out.mono ?_
   rintro e w5 ⟨a5, c5, rfl, hS5, hb5⟩
   have ht5 := ht4.out.below hb5 ht4.out.lt
   have t0 := ht5.at_ (i := 0) rfl
   have t1 := ht5.at_ (i := 1) rfl
   have t2 := ht5.at_ (i := 2) rfl
   have u0 := ht5.frozen 0
   have u1 := ht5.frozen 1
   have u2 := ht5.frozen 2
   have hfin := Lib.hid (store_fin hS5 (hb4.out.trans (hb5.mono hb4.out.size)) (Nat.le_of_eq htb.out) ht4.out.lt hb4.out.size)
   have ht5' := Lib.hid ht5
   clear hS5 hb5 ht5 ht4 hb4 hcop' q0 q1 q2
   go_wp2_with fail
   exact store_ret (copied_set ht5'.out _ _ _) rfl rfl rfl hfin.out
 | false =>
  have hrep : Hid (Sto.replS s f l = ⟨s.id, s.priv, s.logs.take (Sto.pos f s.logs) ++ [⟨f, l⟩] ++ s.logs.drop (Sto.pos f s.logs)⟩) := by show _ = _; rw [Sto.replS, Sto.insL_new l hh]
  have hple := Sto.pos_le f s.logs
  have hll := logsB_len hs (by omega)
  generalize Sto.pos f s.logs = p at *
  have hbv : Hid (Below w3.heap.size w3 (w3.alloc (.cells #[.int .i64 f, .slice a n c] 121))) := (Below.refl _ _).alloc (Nat.le_refl _) _
  have hvl : ∀ k, (Value.slice a' ln c').ownBlock = some k → w3.heap.size ≠ k := fun k e => by have := (World.ownsRow.lt hown3.out k e).2; omega
  have hin := Lib.hid (insertL_any W.heap.size (.slice a' ln c') ln p rows.flatten (logC f a n c) (w3.alloc (.cells #[.int .i64 f, .slice a n c] 121)) (Sl.owns_below hown3.out hbv.out (Nat.le_refl _)) (by omega) (rows_one hO fun _ _ h => LV.one h) w3.heap.size (heap_alloc_new w3 _) hvl rfl (fun u hu => LV.one (K := fun _ => True) (w := w) (x := ⟨f, l⟩) ⟨hf, a, n, c, rfl, HE⟩ u hu) (by have := hxB3'.out.lt; have := hWs.out; simp; omega) (by omega))
  go_wp2_with fail
  refine hin.out.mono ?_
  rintro e w4 ⟨v4, rfl, hown4, hb4⟩
  have hbw : Below w.heap.size w w4 := (hb3'.out.trans (hbv.out.mono hb3'.out.size)).trans (hb4.mono (by have := hWs.out; have := htb.out; omega))
  obtain ⟨a2, c2, rfl, hLS⟩ := repl_ins hO hf HE hbw hlen (by omega) hown4
  have hx4 : Blk w4 (tb + 1) 24 (stC s a' ln c') := (hxB3'.out.alloc _).below hb4 (by have := hWs.out; omega)
  have ht4 : Blk w4 tb 24 [.int .i64 0, .int .i64 0, .slice none 0 0] := (htB3.out.alloc _).below hb4 (by have := hWs.out; omega)
  have z2 := hx4.at_ (i := 2) rfl
  have g2 := hx4.frozen 2
  have hx5 : Blk (w4.setCell ⟨tb + 1, 2, none⟩ (.slice a2 (ln + 1) c2)) (tb + 1) 24 (stC s a2 (ln + 1) c2) := hx4.set 2 _
  have q0 := hx5.at_ (i := 0) rfl
  have q1 := hx5.at_ (i := 1) rfl
  have q2 := hx5.at_ (i := 2) rfl
  have ht5 : Hid (Blk (w4.setCell ⟨tb + 1, 2, none⟩ (.slice a2 (ln + 1) c2)) tb 24 [.int .i64 0, .int .i64 0, .slice none 0 0]) := ht4.far (by simp) _
  have hb5 : Hid (Below w.heap.size w (w4.setCell ⟨tb + 1, 2, none⟩ (.slice a2 (ln + 1) c2))) := hbw.setCell (by have := htb.out; show _ ≤ tb + 1; omega) _
  have hLS5 : LS (fun _ => True) (w4.setCell ⟨tb + 1, 2, none⟩ (.slice a2 (ln + 1) c2)) a2 (ln + 1) c2 (s.logs.take p ++ [⟨f, l⟩] ++ s.logs.drop p) := by
   have hk : Keeps (fun b => b < w.heap.size ∨ W.heap.size ≤ b) w4 (w4.setCell ⟨tb + 1, 2, none⟩ (.slice a2 (ln + 1) c2)) :=
    ⟨by simp [World.setCell], fun b _ hb => Below.heap_setCell w4 ⟨tb + 1, 2, none⟩ _ b (by have := hWs.out; have := htb.out; show b ≠ tb + 1; omega)⟩
   exact (hLS.keep hk).imp fun _ _ _ => trivial
  have hcop := copied_any (fun _ => True) a2 (ln + 1) c2 ⟨s.id, s.priv, s.logs.take p ++ [⟨f, l⟩] ++ s.logs.drop p⟩ _ ⟨hLS5, hS.id, hS.priv⟩
  rw [← hrep.out] at hcop
  have hcop' := Lib.hid hcop
  clear hcop hLS5 hLS hx5 hx4 ht4 hbw hown4 hb4 hin hvl hbv hown3 hxB3' htB3 hb3' x2
  go_wp2_with fail
  generalize World.setCell w4 _ _ = w6 at *
  refine hcop'.out.mono ?_
  rintro e w5 ⟨a5, c5, rfl, hS5, hb6⟩
  have ht6 := ht5.out.below hb6 ht5.out.lt
  have t0 := ht6.at_ (i := 0) rfl
  have t1 := ht6.at_ (i := 1) rfl
  have t2 := ht6.at_ (i := 2) rfl
  have u0 := ht6.frozen 0
  have u1 := ht6.frozen 1
  have u2 := ht6.frozen 2
  have hfin := Lib.hid (store_fin hS5 (hb5.out.trans (hb6.mono hb5.out.size)) (Nat.le_of_eq htb.out) ht5.out.lt hb5.out.size)
  have ht6' := Lib.hid ht6
  clear hS5 hb6 ht6 ht5 hb5 hcop' q0 q1 q2
  go_wp2_with fail
  exact store_ret (copied_set ht6'.out _ _ _) rfl rfl rfl hfin.out
end Go.Proofs.YtnonfdcbnkdmcaaGreatDoor
