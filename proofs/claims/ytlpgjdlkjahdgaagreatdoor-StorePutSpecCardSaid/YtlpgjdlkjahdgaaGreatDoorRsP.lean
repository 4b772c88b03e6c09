/- the reference 30: Put -/
import Derived.Test.YtlpgjdlkjahdgaaGreatDoorRsD
namespace Go.Sto
theorem putS_kind {s : St} {f kind : Int} {data : List Nat} (hq : openE s f = 0) (hk : kindB kind = false) : putS s f kind data = (zeroS, 0, 1) := by
  unfold putS
  rw [if_pos hq, hk]; rfl
theorem putS_old {s : St} {f kind : Int} {data : List Nat} (hq : openE s f = 0) (hk : kindB kind = true) (h : 0 < numE (entD kind data) (ents s f)) : putS s f kind data = (s, ((numE (entD kind data) (ents s f) : Nat) : Int), (0 : Int)) := by
  unfold putS
  rw [if_pos hq, if_pos hk]
  unfold numE at h ⊢
  split at h
  · rename_i h2
    rw [if_pos h2, if_pos h2]
    simp
  · omega
theorem putS_new {s : St} {f kind : Int} {data : List Nat} (hq : openE s f = 0) (hk : kindB kind = true) (h : numE (entD kind data) (ents s f) = 0) (hl : (ents s f).length ≠ 65536) : putS s f kind data = (replS s f (putE (ents s f) kind data), (((ents s f).length : Nat) : Int) + 1, (0 : Int)) := by
  unfold putS
  rw [if_pos hq, if_pos hk]
  unfold numE at h
  split at h
  · omega
  · rename_i h2
    rw [if_neg h2, if_neg hl]
theorem putS_open {s : St} {f kind : Int} {data : List Nat} (hq : openE s f ≠ 0) : putS s f kind data = (zeroS, 0, openE s f) := by
  unfold putS
  rw [if_neg hq]
end Go.Sto
namespace Go.Proofs.YtlpgjdlkjahdgaaGreatDoor
open Go.RowKit Go.Mem
open Go.Sto (Ent Lg St)
theorem put_ap {D B q0 : Nat} {w6 W : World} {a : Option Addr} {n c : Nat} {l : List Ent} (hw : w6.heap.size = B) (hD : D ≤ B) (h0 : B ≤ q0) (hb : Below w6.heap.size w6 W) (hc : Blk W q0 81 []) (H : ES (fun b => b < D) W a n c l) :
    ∃ va vc W', (∀ ty, (Builtin.append_ #[36, 36] ty #[.slice (some ⟨q0, 0, none⟩) 0 0, .slice a n c]).run Tryz.prog W = .ok (.slice va n vc) W') ∧ OwnR D B W' (.slice va n vc) l ∧ Below w6.heap.size w6 W' ∧ W.grownBy W' (some q0) ∧ (∀ ad, va = some ad → ad.block = q0 ∨ ad.block = W.heap.size) := by
  have hlt := hc.lt
  obtain ⟨v1, W3, hr3, ho3, hg3, h5⟩ := append_ents hD h0 (by omega) hc H
  obtain ⟨a3, c3, hv3, _, _⟩ : ∃ a c, v1 = .slice a l.length c ∧ True ∧ True := by
    obtain ⟨rows, ho, _⟩ := ho3
    obtain ⟨a', c', e, _, _⟩ := Sl.of_owns ho
    exact ⟨a', c', e, trivial, trivial⟩
  subst hv3
  have hln := H.rs.len
  subst hln
  refine ⟨a3, c3, W3, hr3, ho3, below_grown hb hg3 hb.size (by omega), hg3, fun ad e => ?_⟩
  subst e
  simpa [Value.ownBlock] using h5
theorem OwnR.kept {D B q : Nat} {W W' : World} {v : Value} {l : List Ent} (h : OwnR D B W v l) (hg : W.grownBy W' (some q)) (hq : D ≤ q) (hne : v.ownBlock ≠ some q) : OwnR D B W' v l := by
  obtain ⟨rows, ho, hR⟩ := h
  exact ⟨rows, ho.kept hg (.inr hne), hR.imp fun _ _ h => h.keep ⟨hg.size, fun b hb hk => hg.block b hb (fun e => by simp only [Option.some.injEq] at e; omega)⟩⟩
theorem OwnR.below {D B : Nat} {W W' : World} {v : Value} {l : List Ent} (h : OwnR D B W v l) (hb : Below W.heap.size W W') : OwnR D B W' v l := by
  obtain ⟨rows, ho, hR⟩ := h
  exact ⟨rows, Sl.owns_below ho hb (Nat.le_refl _), hR.imp fun _ _ h => h.keep (Keeps.below hb)⟩
theorem OwnR.lt {D B : Nat} {W : World} {v : Value} {l : List Ent} (h : OwnR D B W v l) : ∀ g, v.ownBlock = some g → B ≤ g ∧ g < W.heap.size := by
  obtain ⟨rows, ho, _⟩ := h
  exact fun g e => World.ownsRow.lt ho g e
theorem empty_bytes (W : World) : (Instr.buildSlice 33 0 #[]).run Tryz.prog W = .ok (.slice (some ⟨W.heap.size, 0, none⟩) 0 0) (W.alloc (.cells #[] 5)) := by kernel_rfl
/-- what the region that returns an old entry keeps. -/
structure P9 (w : World) (sb db : Nat) (s : St) (a : Option Addr) (n c : Nat) (DD : List Value) (ea : Option Addr) (m ec : Nat) (l : List Ent) (W : World) : Prop where
  bS : Blk W sb 24 (stC s a n c)
  bR : ∃ x0 x1 x2, Blk W (sb + 1) 24 [x0, x1, x2]
  bD : Blk W db 43 DD
  es : ES (fun b => b < sb) W ea m ec l
  bel : Below w.heap.size w W
section
variable {w W W2 : World} {sb db : Nat} {s : St} {a : Option Addr} {n c : Nat} {DD : List Value} {ea : Option Addr} {m ec : Nat} {l : List Ent}
theorem P9.next (h : P9 w sb db s a n c DD ea m ec l W) (hb : Below W.heap.size W W2) : P9 w sb db s a n c DD ea m ec l W2 := by
  obtain ⟨x0, x1, x2, hR⟩ := h.bR
  exact ⟨h.bS.below hb h.bS.lt, ⟨x0, x1, x2, hR.below hb hR.lt⟩, h.bD.below hb h.bD.lt, h.es.below hb, h.bel.trans (hb.mono h.bel.size)⟩
theorem P9.fin (h : P9 w sb db s a n c DD ea m ec l W) (hsb : w.heap.size = sb) (hdb : sb + 1 < db) (y0 y1 y2 : Value) : P9 w sb db s a n c DD ea m ec l (((W.setCell ⟨sb + 1, 0, none⟩ y0).setCell ⟨sb + 1, 1, none⟩ y1).setCell ⟨sb + 1, 2, none⟩ y2) ∧ Blk (((W.setCell ⟨sb + 1, 0, none⟩ y0).setCell ⟨sb + 1, 1, none⟩ y1).setCell ⟨sb + 1, 2, none⟩ y2) (sb + 1) 24 [y0, y1, y2] := by
  obtain ⟨x0, x1, x2, hR⟩ := h.bR
  have hB := copied_set hR y0 y1 y2
  refine ⟨⟨?_, ⟨y0, y1, y2, hB⟩, ?_, ?_, ?_⟩, hB⟩
  · exact ((h.bS.far (by show sb ≠ sb + 1; omega) _).far (by show sb ≠ sb + 1; omega) _).far (by show sb ≠ sb + 1; omega) _
  · exact ((h.bD.far (by show db ≠ sb + 1; omega) _).far (by show db ≠ sb + 1; omega) _).far (by show db ≠ sb + 1; omega) _
  · exact ((h.es.imp (K' := fun b => b < sb ∧ b ≠ sb + 1) fun b _ k => ⟨k, by omega⟩).keep (copied_keeps _ _ _ _ _)).imp fun _ _ k => k.1
  · exact ((h.bel.setCell (p := ⟨sb + 1, 0, none⟩) (by show w.heap.size ≤ sb + 1; omega) _).setCell (p := ⟨sb + 1, 1, none⟩) (by show w.heap.size ≤ sb + 1; omega) _).setCell (p := ⟨sb + 1, 2, none⟩) (by show w.heap.size ≤ sb + 1; omega) _
end

set_option maxRecDepth 20000 in
set_option maxHeartbeats 8000000 in
theorem r30put_any (a : Option Addr) (n c : Nat) (s : St) (f kind : Int) (hf : I64 f) (hk : I64 kind) (da : Option Addr) (dn dc : Nat) (data : List Nat) (w : World) (H : SV (fun _ => True) w a n c s) (HD : BW w da dn dc data) (hdn : dn ≤ 1000000) (hn4 : n ≤ 1000) (hel : (Sto.ents s f).length ≤ 1000) :
    Calls Tryz.prog 17 #[.agg #[.int .i64 s.id, .int .i64 s.priv, .slice a n c], .int .i64 f, .int .i64 kind, .slice da dn dc] w (PuX (Sto.putS s f kind data).1 (Sto.putS s f kind data).2.1 (Sto.putS s f kind data).2.2 w) := by
  obtain ⟨sb, hsb⟩ : ∃ sb, Hid (w.heap.size = sb) := ⟨_, rfl⟩
  have H' := Lib.hid H
  have HK : Hid (SV (fun b => b < sb) w a n c s) := by rw [← hsb.out]; exact H.imp fun b hb _ => hb
  have hop := Lib.hid (fun W (hW : Below w.heap.size w W) => r30open_any (fun _ => True) a n c s f W (H'.out.below hW))
  have hen := Lib.hid (fun W (hW : Below w.heap.size w W) => r30ents_any (fun b => b < sb) a n c s f W (HK.out.below hW))
  clear H
  have HD' := Lib.hid HD
  have hlnd := Lib.hid HD.len
  clear HD
  have hik := Lib.hid (fun W => r30kind_any kind W)
  obtain ⟨X, hX⟩ : ∃ X, X = PuX (Sto.putS s f kind data).1 (Sto.putS s f kind data).2.1 (Sto.putS s f kind data).2.2 w := ⟨_, rfl⟩
  have hfin : Hid (∀ x no q W a' c', Sto.putS s f kind data = (x, no, q) → SV (fun _ => True) W a' x.logs.length c' x → Below w.heap.size w W → X (.returned (.tuple #[.agg #[.int .i64 x.id, .int .i64 x.priv, .slice a' x.logs.length c'], .int .i64 no, .int .i64 q])) W) := fun x no q W a' c' h1 h2 h3 => by
    rw [hX, h1]; exact ⟨a', c', rfl, h2, h3⟩
  have herr : Hid (∀ q W, Sto.putS s f kind data = (Sto.zeroS, 0, q) → Below w.heap.size w W → X (.returned (.tuple #[.agg #[.int .i64 0, .int .i64 0, .slice none 0 0], .int .i64 0, .int .i64 q])) W) := fun q W h1 h3 => hfin.out Sto.zeroS 0 q W none 0 h1 (SV.zero _ _) h3
  rw [← hX]
  clear hX
  obtain ⟨q, hq⟩ : ∃ q, Hid (Sto.openE s f = q) := ⟨_, rfl⟩
  rw [hq.out] at hop
  go_enter Tryz.func17, Tryz.ntmps17
  go_upto_region 1 with fail
  rw [hsb.out]
  generalize hWq : World.alloc _ _ = W0
  have hP : Hid (PuW w sb s a n c W0) := by rw [← hWq, ← hsb.out]; exact PuW.new w s a n c
  clear hWq
  have s0 := hP.out.bS.at_ (i := 0) rfl
  have s1 := hP.out.bS.at_ (i := 1) rfl
  have s2 := hP.out.bS.at_ (i := 2) rfl
  go_wp2_with fail
  refine (hop.out W0 hP.out.bel).mono ?_
  rintro e w1 ⟨rfl, hb1⟩
  have hP1 := Lib.hid (hP.out.next hb1)
  clear hb1 s0 s1 s2 hop hP
  by_cases hq0 : q = 0
  · subst hq0
    have hlb : Hid (Sto.logsB (-1) s.logs = true) := (Sto.chkS_iff s).1 ((Sto.openE_iff s f).1 hq.out).1 |>.2
    go_upto_region 4 with fail
    cases hkb : Sto.kindB kind with
    | false =>
      rw [hkb] at hik
      have hvk := Lib.hid (Sto.putS_kind (s := s) (f := f) (kind := kind) (data := data) hq.out hkb)
      go_wp2_with fail
      refine (hik.out _).mono ?_
      rintro e wk ⟨rfl, hwk⟩
      rw [hwk]
      clear hwk wk
      have hfn := Lib.hid (hP1.out.fin hsb.out (.int .i64 0) (.int .i64 0) (.slice none 0 0))
      have hend := Lib.hid (herr.out 1 _ (hvk.out) hfn.out.2)
      have r0 := hP1.out.bR.at_ (i := 0) rfl
      have r1 := hP1.out.bR.at_ (i := 1) rfl
      have r2 := hP1.out.bR.at_ (i := 2) rfl
      have f0 := hP1.out.bR.frozen 0
      have f1 := hP1.out.bR.frozen 1
      have f2 := hP1.out.bR.frozen 2
      clear hfin herr hen hP1 hik hvk
      go_wp2_with fail
      exact ret_cell_tmp_tmpV (p := 8) (u := 9) (u2 := 10) rfl hfn.out.1 Tryz.underlying24 rfl size26 rfl rfl rfl rfl hend.out
    | true =>
      rw [hkb] at hik
      have hvo := Lib.hid (Sto.putS_old (s := s) (f := f) (kind := kind) (data := data) hq.out hkb)
      have hvn := Lib.hid (Sto.putS_new (s := s) (f := f) (kind := kind) (data := data) hq.out hkb)
      clear hq
      generalize Sto.ents s f = l at *
      have s0 := hP1.out.bS.at_ (i := 0) rfl
      have s1 := hP1.out.bS.at_ (i := 1) rfl
      have s2 := hP1.out.bS.at_ (i := 2) rfl
      go_wp2_with fail
      refine (hik.out _).mono ?_
      rintro e wk ⟨rfl, hwk⟩
      rw [hwk]
      clear hwk wk
      go_wp2_with fail
      refine (hen.out w1 hP1.out.bel).mono ?_
      rintro e w2 ⟨ea, ec, rfl, hES0, hb2⟩
      have hP2 := Lib.hid (hP1.out.next hb2)
      have hES := Lib.hid hES0
      clear hb2 hP1 s0 s1 s2 hen hik hES0
      obtain ⟨m, hm⟩ : ∃ m, Hid (l.length = m) := ⟨_, rfl⟩
      rw [hm.out] at hES hel hvn ⊢
      have hEk : Hid (I64 kind) := hk
      go_upto_region 7 with fail
      go_wp2_with fail
      refine (r30digest_any kind ⟨hEk.out.1, hEk.out.2⟩ da dn dc data w2 (HD'.out.below hP2.out.bel) (by omega)).mono ?_
      rintro e w3 ⟨rfl, hb3⟩
      have hP3 := Lib.hid (hP2.out.next hb3)
      have hES3 := Lib.hid (hES.out.below hb3)
      have hdd : Hid (Dig (entryD kind data)) := ⟨Sha.tagged_length _ _, Sha.tagged_lt _ _⟩
      have hde : Hid (Sto.entD kind data = entryD kind data) := rfl
      rw [hde.out] at hvo hvn
      obtain ⟨D, hD⟩ : ∃ D, Hid (entryD kind data = D) := ⟨_, rfl⟩
      rw [hD.out] at hdd hvo hvn ⊢
      obtain ⟨db, hdb⟩ : ∃ db, Hid (w3.heap.size = db) := ⟨_, rfl⟩
      have hPt := Lib.hid (Put.mk' (ty := 43) (RES := bv D) (Blk.new w3 43 (bv (List.replicate 32 0))) (by rw [bv_length, hdd.out.1]; rfl) (by rw [bv_length, hdd.out.1]; exact size35) (bv_one D))
      obtain ⟨W5, hW5⟩ : ∃ W, Hid ((w3.alloc (.cells (bv (List.replicate 32 0)).toArray 43)).setCells w3.heap.size 0 (bv D) = W) := ⟨_, rfl⟩
      have hal : Below w3.heap.size w3 W5 := by rw [← hW5.out]; exact below_grown ((Below.refl _ w3).alloc (Nat.le_refl _) _) hPt.out.grw (by simp) (Nat.le_refl _)
      have hP5 := Lib.hid (hP3.out.next hal)
      have hES5 := Lib.hid (hES3.out.below hal)
      have hBd : Hid (Blk W5 db 43 (bv D)) := by rw [← hW5.out, ← hdb.out]; exact hPt.out.blk
      have hdi : Hid ((Tryz.prog.info? 43).map (·.size) = some (bv D).length) := by show _ = _; rw [bv_length, hdd.out.1]; exact size35
      have hnu := Lib.hid (fun W (hW : Below W5.heap.size W5 W) => r30number_any (fun b => b < sb) ea m ec l D hdd.out W (hES5.out.below hW))
      have hrd : Hid (∀ wz, Below W5.heap.size W5 wz → wz.rangeAt db 0 (bv D)) := fun wz h => (hBd.out.below h hBd.out.lt).range
      have hs0 : Hid (∀ wz, Below W5.heap.size W5 wz → wz.cell? ⟨sb, 0, none⟩ = some (.int .i64 s.id)) := fun wz h => (hP5.out.next h).bS.at_ (i := 0) rfl
      have hs1 : Hid (∀ wz, Below W5.heap.size W5 wz → wz.cell? ⟨sb, 1, none⟩ = some (.int .i64 s.priv)) := fun wz h => (hP5.out.next h).bS.at_ (i := 1) rfl
      have hs2 : Hid (∀ wz, Below W5.heap.size W5 wz → wz.cell? ⟨sb, 2, none⟩ = some (.slice a n c)) := fun wz h => (hP5.out.next h).bS.at_ (i := 2) rfl
      obtain ⟨DD, hDD⟩ : ∃ R, Hid (bv D = R) := ⟨_, rfl⟩
      obtain ⟨nn, hnn⟩ : ∃ m, Hid (Sto.numE D l = m) := ⟨_, rfl⟩
      rw [hDD.out] at hPt hW5 hdi hnu hrd ⊢
      rw [hnn.out] at hnu hvo hvn
      rw [hdb.out] at hPt hW5
      have hrd5 := Lib.hid (hrd.out W5 (Below.refl _ _))
      have hP3l : Hid (sb + 1 < w3.heap.size) := hP3.out.bR.lt
      clear hal hb3 hP2 hP3 hES hES3
      go_upto_region 8 with (first
        | (rw [hdb.out]; refine wpList_store_mid (by rfl) 43 (.tmp 13) (.tmp 31) (by rfl) db 0 DD.toArray (by rfl) (by rfl) hPt.out.th hPt.out.inf hPt.out.one ?_; generalize hWq : World.setCells _ _ _ _ = Wq; obtain rfl : W5 = Wq := by { rw [← hWq]; exact hW5.out.symm }; clear hWq))
      clear hPt hW5
      go_wp2_with (first
        | (refine wpList_load_mid (by rfl) 43 (.tmp 13) (by rfl) db 0 (by rfl) DD _ hrd5.out Tryz.underlying43 (by rfl) hdi.out ?_))
      refine (hnu.out W5 (Below.refl _ _)).mono ?_
      rintro e w6 ⟨rfl, hb6⟩
      have hdl : Hid (sb + 1 < db) := by rw [← hdb.out]; exact hP3l.out
      have hP6 := Lib.hid (hP5.out.next hb6)
      have hES6 := Lib.hid (hES5.out.below hb6)
      have hln : Hid (s.logs.length = n) := H'.out.ls.rs.len
      by_cases hn0 : 0 < nn
      · have hv9 := Lib.hid (hvo.out hn0)
        have q1 : decide ((0 : Int) < (nn : Int)) = true := decide_eq_true (by omega)
        have q2 : decide (0 < nn) = true := decide_eq_true hn0
        have h9 : Hid (P9 w sb db s a n c DD ea m ec l w6) := ⟨hP6.out.bS, ⟨_, _, _, hP6.out.bR⟩, by rw [← hDD.out]; exact hBd.out.below hb6 hBd.out.lt, hES6.out, hP6.out.bel⟩
        have hnu9 := Lib.hid (fun W (hW : ES (fun b => b < sb) W ea m ec l) => r30number_any (fun b => b < sb) ea m ec l D hdd.out W hW)
        rw [hDD.out, hnn.out] at hnu9
        clear hb6 hP5 hES5 hnu hrd5 hrd hs0 hs1 hs2 hn0 hvo hvn
        go_upto_region 9 with fail
        refine wp_region_held_drew (S := fun wz => P9 w sb db s a n c DD ea m ec l wz) (by kernel_rfl) (h9.out.next (Below.refl _ w6).drew) (fun hHeld => ?_)
        have hh9 : P9 w sb db s a n c DD ea m ec l w6.drew := h9.out.next (Below.refl _ w6).drew
        generalize w6.drew = W6 at *
        refine wpAnyH_take (i := 0) (oi := { dst := some 36, op := Op.load 24 (Operand.tmp 4), type := 24, pos := "ref.go:131", after := #[], guard := none }) (v := ?_) rfl (by kernel_rfl) (by kernel_rfl) (by kernel_rfl) (fun _ _ _ h => h) (Or.inl ⟨by rfl, ?_⟩) hHeld ?_
        rotate_left
        · intro wz hSw
          have q0 := hSw.bS.at_ (i := 0) rfl
          have q1 := hSw.bS.at_ (i := 1) rfl
          have q2 := hSw.bS.at_ (i := 2) rfl
          go_simp
          all_goals (with_reducible rfl)
        try simp only [Act.put, List.setIfInBounds_toArray, List.set_cons_zero, List.set_cons_succ]
        refine wpAnyH_take (i := 1) (oi := { dst := some 37, op := Op.move (Operand.tmp 12), type := 36, pos := "ref.go:131", after := #[], guard := none }) (v := ?_) rfl (by kernel_rfl) (by kernel_rfl) (by kernel_rfl) (fun _ _ _ h => h) (Or.inl ⟨by rfl, ?_⟩) hHeld ?_
        rotate_left
        · intro wz hSw
          go_simp
          all_goals (with_reducible rfl)
        try simp only [Act.put, List.setIfInBounds_toArray, List.set_cons_zero, List.set_cons_succ]
        refine wpAnyH_take (i := 2) (oi := { dst := some 38, op := Op.load 43 (Operand.tmp 13), type := 43, pos := "ref.go:131", after := #[], guard := none }) rfl (by kernel_rfl) (by kernel_rfl) (by kernel_rfl) (fun _ _ _ h => h) (yieldsIf_load_mid (by rfl) _ _ rfl db 0 rfl (DD) _ (fun wz h => h.bD.range) Tryz.underlying43 rfl (hdi.out)) hHeld ?_
        try simp only [Act.put, List.setIfInBounds_toArray, List.set_cons_zero, List.set_cons_succ]
        refine wpAnyH_ready (rs := [3]) (by kernel_rfl) (by simp) ?_
        refine AllReadyH.cons (o := { dst := some 39, op := Op.call { callee := Callee.value (Operand.func 52), args := #[Operand.tmp 37, Operand.tmp 38], argTypes := #[36, 43] }, type := 3, pos := "ref.go:131", after := #[{ on := 1, ground := Ground.data }, { on := 2, ground := Ground.data }], guard := none }) rfl (fun K hK => ?_) AllReadyH.nil
        rw [if_pos (by rfl)]
        show Oper.wp _ _ _ _ K _
        go_simp
        go_at_call 52
        refine (hnu9.out W6 hHeld.es).mono ?_
        rintro e W7 ⟨rfl, hb7⟩
        refine hK.out _ _ (hHeld.next hb7) (fun hHeld2 => ?_)
        clear hb7
        clear hHeld
        have hHeld := hHeld2
        clear hHeld2
        clear hK K
        try simp only [Act.put, List.setIfInBounds_toArray, List.set_cons_zero, List.set_cons_succ]
        obtain ⟨x0, x1, x2, hR7⟩ := hHeld.bR
        have r0 := hR7.at_ (i := 0) rfl
        have r1 := hR7.at_ (i := 1) rfl
        have r2 := hR7.at_ (i := 2) rfl
        have f0 := hR7.frozen 0
        have f1 := hR7.frozen 1
        have f2 := hR7.frozen 2
        have hfn := Lib.hid (hHeld.fin hsb.out hdl.out (.int .i64 s.id) (.int .i64 s.priv) (.slice a n c))
        clear hR7
        refine wpAnyH_ready (rs := [4]) (by kernel_rfl) (by simp) ?_
        refine AllReadyH.cons (o := { dst := none, op := Op.store 24 (Operand.tmp 8) (Operand.tmp 36), type := 0, pos := "ref.go:131", after := #[{ on := 0, ground := Ground.data }, { on := 3, ground := Ground.chain }, { on := 0, ground := Ground.phase }, { on := 1, ground := Ground.textOnly Departure.lateStores }, { on := 2, ground := Ground.textOnly Departure.lateStores }, { on := 3, ground := Ground.textOnly Departure.lateStoresUnsure }], guard := none }) rfl (fun K hK => ?_) AllReadyH.nil
        rw [if_pos (by rfl)]
        show Oper.wp _ _ _ _ K _
        go_simp
        refine hK.out _ _ hfn.out.1 (fun hHeld2 => ?_)
        clear hK K
        try simp only [Act.put, List.setIfInBounds_toArray, List.set_cons_zero, List.set_cons_succ]
        clear r0 r1 r2 f0 f1 f2 hh9
        clear hHeld
        have hHeld := hHeld2
        clear hHeld2
        refine wpAnyH_take (i := 5) (oi := { dst := some 9, op := Op.assign (Operand.tmp 39), type := 3, pos := "ref.go:131", after := #[{ on := 3, ground := Ground.data }, { on := 4, ground := Ground.chain }, { on := 0, ground := Ground.phase }, { on := 1, ground := Ground.phase }, { on := 2, ground := Ground.phase }, { on := 3, ground := Ground.phase }, { on := 4, ground := Ground.phase }], guard := none }) (v := ?_) rfl (by kernel_rfl) (by kernel_rfl) (by kernel_rfl) (fun _ _ _ h => h) (Or.inl ⟨by rfl, ?_⟩) hHeld ?_
        rotate_left
        · intro wz hSw
          go_simp
          all_goals (with_reducible rfl)
        try simp only [Act.put, List.setIfInBounds_toArray, List.set_cons_zero, List.set_cons_succ]
        refine wpAnyH_take (i := 6) (oi := { dst := some 10, op := Op.assign (Operand.const (Value.int IntKind.i64 0)), type := 27, pos := "ref.go:131", after := #[{ on := 5, ground := Ground.chain }, { on := 0, ground := Ground.phase }, { on := 1, ground := Ground.phase }, { on := 2, ground := Ground.phase }, { on := 3, ground := Ground.phase }, { on := 4, ground := Ground.phase }, { on := 5, ground := Ground.phase }], guard := none }) (v := ?_) rfl (by kernel_rfl) (by kernel_rfl) (by kernel_rfl) (fun _ _ _ h => h) (Or.inl ⟨by rfl, ?_⟩) hHeld ?_
        rotate_left
        · intro wz hSw
          go_simp
          all_goals (with_reducible rfl)
        try simp only [Act.put, List.setIfInBounds_toArray, List.set_cons_zero, List.set_cons_succ]
        refine wpAnyH_done (by kernel_rfl) ?_ _
        have hend := Lib.hid (hfin.out s nn 0 _ a c hv9.out (by rw [hln.out]; exact H'.out.below hHeld.bel) hHeld.bel)
        rw [hln.out] at hend
        clear hHeld
        go_wp2_with fail
        exact ret_cell_tmp_tmpV (p := 8) (u := 9) (u2 := 10) rfl hfn.out.2 Tryz.underlying24 rfl size26 rfl rfl rfl rfl hend.out
      · have hn00 : nn = 0 := by omega
        subst hn00
        have hv9 := Lib.hid (hvn.out rfl (by omega))
        have q1 : ((m : Int) == 65536) = false := by rw [beq_eq_false_iff_ne]; omega
        have q2 : decide ((m : Int) = 65536) = false := decide_eq_false (by omega)
        have q3 : decide (m = 65536) = false := decide_eq_false (by omega)
        have q4 : (m == 65536) = false := by rw [beq_eq_false_iff_ne]; omega
        obtain ⟨B, hB⟩ : ∃ B, Hid (w6.heap.size = B) := ⟨_, rfl⟩
        have hsbB2 : sb + 1 < B := by rw [← hB.out]; exact hP6.out.bR.lt
        have hsbB : sb ≤ B := by omega
        have hrd6 : Hid (∀ wz, Below w6.heap.size w6 wz → wz.rangeAt db 0 DD) := fun wz h => hrd.out wz (hb6.trans (h.mono hb6.size))
        clear hP5 hES5 hnu hrd5 hrd hs0 hs1 hs2 hn0 hvo hvn hb6
        go_upto_region 12 with fail
        refine shareV (G := ∀ (q0 : Nat) (v1a : Option Addr) (v1c q5 : Nat) (WZ : World), Below w6.heap.size w6 WZ → OwnR sb B WZ (.slice v1a m v1c) l → Blk WZ q5 5 [] → (∀ g, (Value.slice v1a m v1c).ownBlock = some g → g ≠ q5) → B ≤ q5 → (?S3 : Nat → Option Addr → Nat → Nat → World → Prop) q0 v1a v1c q5 WZ) ?h3 ?k3
        case' h3 => intro K3
        case h3 =>
          refine wp_region_held_drew (S := fun wz => Below w6.heap.size w6 wz) (by kernel_rfl) ((Below.refl _ w6).drew) (fun hHeld => ?_)
          have hh0 : Below w6.heap.size w6 w6.drew := (Below.refl _ w6).drew
          generalize w6.drew = W at *
          refine wpAnyH_take (i := 1) (oi := { dst := some 45, op := Op.move (Operand.tmp 12), type := 36, pos := "ref.go:136", after := #[], guard := none }) (v := ?_) rfl (by kernel_rfl) (by kernel_rfl) (by kernel_rfl) (fun _ _ _ h => h) (Or.inl ⟨by rfl, ?_⟩) hHeld ?_
          rotate_left
          · intro wz hSw
            go_simp
            all_goals (with_reducible rfl)
          try simp only [Act.put, List.setIfInBounds_toArray, List.set_cons_zero, List.set_cons_succ]
          refine wpAnyH_take (i := 3) (oi := { dst := some 47, op := Op.move (Operand.tmp 2), type := 3, pos := "ref.go:136", after := #[], guard := none }) (v := ?_) rfl (by kernel_rfl) (by kernel_rfl) (by kernel_rfl) (fun _ _ _ h => h) (Or.inl ⟨by rfl, ?_⟩) hHeld ?_
          rotate_left
          · intro wz hSw
            go_simp
            all_goals (with_reducible rfl)
          try simp only [Act.put, List.setIfInBounds_toArray, List.set_cons_zero, List.set_cons_succ]
          refine wpAnyH_take (i := 4) (oi := { dst := some 48, op := Op.load 43 (Operand.tmp 13), type := 43, pos := "ref.go:136", after := #[], guard := none }) rfl (by kernel_rfl) (by kernel_rfl) (by kernel_rfl) (fun _ _ _ h => h) (yieldsIf_load_mid (by rfl) _ _ rfl db 0 rfl (DD) _ (fun wz h => hrd6.out wz h) Tryz.underlying43 rfl (hdi.out)) hHeld ?_
          try simp only [Act.put, List.setIfInBounds_toArray, List.set_cons_zero, List.set_cons_succ]
          refine wpAnyH_take (i := 6) (oi := { dst := some 50, op := Op.move (Operand.tmp 3), type := 33, pos := "ref.go:136", after := #[], guard := none }) (v := ?_) rfl (by kernel_rfl) (by kernel_rfl) (by kernel_rfl) (fun _ _ _ h => h) (Or.inl ⟨by rfl, ?_⟩) hHeld ?_
          rotate_left
          · intro wz hSw
            go_simp
            all_goals (with_reducible rfl)
          try simp only [Act.put, List.setIfInBounds_toArray, List.set_cons_zero, List.set_cons_succ]
          refine wpAnyH_ready (rs := [0, 5]) (by kernel_rfl) (by simp) ?_
          refine AllReadyH.cons (o := { dst := some 44, op := Op.buildSlice 36 0 #[], type := 36, pos := "ref.go:136", after := #[], guard := none }) rfl (fun K hK => ?_) (AllReadyH.cons (o := { dst := some 49, op := Op.buildSlice 33 0 #[], type := 33, pos := "ref.go:136", after := #[], guard := none }) rfl (fun K hK => ?_) AllReadyH.nil)
          case refine_1 =>
            rw [if_pos (by rfl)]
            show Oper.wp _ _ _ _ K _
            refine wp_bslice 36 0 _ rfl #[] (by simp) (empty_ents _) ?_
            refine hK.out _ _ (hHeld.alloc hHeld.size _) (fun hHeld2 => ?_)
            clear hK K
            try simp only [Act.put, List.setIfInBounds_toArray, List.set_cons_zero, List.set_cons_succ]
            obtain ⟨q0, hq0⟩ : ∃ q, W.heap.size = q := ⟨_, rfl⟩
            have hq0B : B ≤ q0 := by rw [← hq0, ← hB.out]; exact hHeld.size
            have hq0n : Blk (W.alloc (.cells #[] 81)) q0 81 [] := by rw [← hq0]; exact Blk.new W 81 []
            have hA1s : (W.alloc (.cells #[] 81)).heap.size = q0 + 1 := by rw [World.size_alloc, hq0]
            rw [hq0]
            clear hHeld
            have hHeld := hHeld2
            clear hHeld2
            generalize World.alloc W (.cells #[] 81) = A1 at *

            refine wpAnyH_ready (rs := [2, 5]) (by kernel_rfl) (by simp) ?_
            refine AllReadyH.cons (o := { dst := some 46, op := Op.call { callee := Callee.builtin Builtin.append, args := #[Operand.tmp 44, Operand.tmp 45], argTypes := #[36, 36] }, type := 36, pos := "ref.go:136", after := #[{ on := 0, ground := Ground.data }, { on := 1, ground := Ground.data }], guard := none }) rfl (fun K hK => ?_) (AllReadyH.cons (o := { dst := some 49, op := Op.buildSlice 33 0 #[], type := 33, pos := "ref.go:136", after := #[], guard := none }) rfl (fun K hK => ?_) AllReadyH.nil)
            case refine_1 =>
              rw [if_pos (by rfl)]
              obtain ⟨va, vc, W2, hr2, ho2, hb2, hg2, hs2⟩ := put_ap hB.out hsbB hq0B hHeld hq0n (hES6.out.below hHeld)
              show Oper.wp _ _ _ _ K _
              refine wp_append_run rfl _ _ rfl rfl (hr2 _) ?_
              refine hK.out _ _ hb2 (fun _ => ?_)
              clear hK K
              try simp only [Act.put, List.setIfInBounds_toArray, List.set_cons_zero, List.set_cons_succ]
              clear hHeld
              have hHeld := hb2
              refine wpAnyH_ready (rs := [5]) (by kernel_rfl) (by simp) ?_
              refine AllReadyH.cons (o := { dst := some 49, op := Op.buildSlice 33 0 #[], type := 33, pos := "ref.go:136", after := #[], guard := none }) rfl (fun K hK => ?_) AllReadyH.nil
              rw [if_pos (by rfl)]
              show Oper.wp _ _ _ _ K _
              refine wp_bslice 33 0 _ rfl #[] (by simp) (empty_bytes _) ?_
              refine hK.out _ _ (hHeld.alloc hHeld.size _) (fun hHeld2 => ?_)
              clear hK K
              try simp only [Act.put, List.setIfInBounds_toArray, List.set_cons_zero, List.set_cons_succ]
              obtain ⟨q5, hq5⟩ : ∃ q, W2.heap.size = q := ⟨_, rfl⟩
              have hq5B : B ≤ q5 := by rw [← hq5, ← hB.out]; exact hHeld.size
              have hq5n : Blk (W2.alloc (.cells #[] 5)) q5 5 [] := by rw [← hq5]; exact Blk.new W2 5 []
              have hA3s : (W2.alloc (.cells #[] 5)).heap.size = q5 + 1 := by rw [World.size_alloc, hq5]
              rw [hq5]
              clear hHeld
              have hHeld := hHeld2
              clear hHeld2

              have ho3 := ho2.below ((Below.refl _ W2).alloc (Nat.le_refl _) (.cells #[] 5))
              generalize World.alloc W2 (.cells #[] 5) = W3 at *
              exact K3 q0 va vc q5 W3 hHeld ho3 hq5n (fun g e => by have := (ho2.lt g e).2; omega) hq5B
            case refine_2 =>
              rw [if_pos (by rfl)]
              show Oper.wp _ _ _ _ K _
              refine wp_bslice 33 0 _ rfl #[] (by simp) (empty_bytes _) ?_
              refine hK.out _ _ (hHeld.alloc hHeld.size _) (fun hHeld2 => ?_)
              clear hK K
              try simp only [Act.put, List.setIfInBounds_toArray, List.set_cons_zero, List.set_cons_succ]
              have hq0n2 := hq0n.alloc (.cells #[] 5)
              obtain ⟨q5, hq5⟩ : ∃ q, A1.heap.size = q := ⟨_, rfl⟩
              have hq5B : B ≤ q5 := by rw [← hq5, ← hB.out]; exact hHeld.size
              have hq5n : Blk (A1.alloc (.cells #[] 5)) q5 5 [] := by rw [← hq5]; exact Blk.new A1 5 []
              have hA5s : (A1.alloc (.cells #[] 5)).heap.size = q5 + 1 := by rw [World.size_alloc, hq5]
              rw [hq5]
              clear hHeld
              have hHeld := hHeld2
              clear hHeld2
              clear hq0n
              have hq0n := hq0n2
              clear hq0n2
              generalize World.alloc A1 (.cells #[] 5) = A5 at *

              refine wpAnyH_ready (rs := [2]) (by kernel_rfl) (by simp) ?_
              refine AllReadyH.cons (o := { dst := some 46, op := Op.call { callee := Callee.builtin Builtin.append, args := #[Operand.tmp 44, Operand.tmp 45], argTypes := #[36, 36] }, type := 36, pos := "ref.go:136", after := #[{ on := 0, ground := Ground.data }, { on := 1, ground := Ground.data }], guard := none }) rfl (fun K hK => ?_) AllReadyH.nil
              rw [if_pos (by rfl)]
              obtain ⟨va, vc, W2, hr2, ho2, hb2, hg2, hs2⟩ := put_ap hB.out hsbB hq0B hHeld hq0n (hES6.out.below hHeld)
              show Oper.wp _ _ _ _ K _
              refine wp_append_run rfl _ _ rfl rfl (hr2 _) ?_
              refine hK.out _ _ hb2 (fun _ => ?_)
              clear hK K
              try simp only [Act.put, List.setIfInBounds_toArray, List.set_cons_zero, List.set_cons_succ]
              have hs2v : ∀ {g}, (Value.slice va m vc).ownBlock = some g → g = q0 ∨ g = A5.heap.size := fun {g} e => by cases va with | none => simp [Value.ownBlock] at e | some ad => simp only [Value.ownBlock, Option.some.injEq] at e; rw [← e]; exact hs2 ad rfl
              exact K3 q0 va vc q5 W2 hb2 ho2 (hq5n.grown hg2 (fun e => by injection e with e; omega)) (fun g e => by rcases hs2v e with h | h <;> omega) hq5B
          case refine_2 =>
            rw [if_pos (by rfl)]
            show Oper.wp _ _ _ _ K _
            refine wp_bslice 33 0 _ rfl #[] (by simp) (empty_bytes _) ?_
            refine hK.out _ _ (hHeld.alloc hHeld.size _) (fun hHeld2 => ?_)
            clear hK K
            try simp only [Act.put, List.setIfInBounds_toArray, List.set_cons_zero, List.set_cons_succ]
            obtain ⟨q5, hq5⟩ : ∃ q, W.heap.size = q := ⟨_, rfl⟩
            have hq5B : B ≤ q5 := by rw [← hq5, ← hB.out]; exact hHeld.size
            have hq5n : Blk (W.alloc (.cells #[] 5)) q5 5 [] := by rw [← hq5]; exact Blk.new W 5 []
            have hU1s : (W.alloc (.cells #[] 5)).heap.size = q5 + 1 := by rw [World.size_alloc, hq5]
            rw [hq5]
            clear hHeld
            have hHeld := hHeld2
            clear hHeld2
            generalize World.alloc W (.cells #[] 5) = U1 at *

            refine wpAnyH_ready (rs := [0]) (by kernel_rfl) (by simp) ?_
            refine AllReadyH.cons (o := { dst := some 44, op := Op.buildSlice 36 0 #[], type := 36, pos := "ref.go:136", after := #[], guard := none }) rfl (fun K hK => ?_) AllReadyH.nil
            rw [if_pos (by rfl)]
            show Oper.wp _ _ _ _ K _
            refine wp_bslice 36 0 _ rfl #[] (by simp) (empty_ents _) ?_
            refine hK.out _ _ (hHeld.alloc hHeld.size _) (fun hHeld2 => ?_)
            clear hK K
            try simp only [Act.put, List.setIfInBounds_toArray, List.set_cons_zero, List.set_cons_succ]
            have hq5n2 := hq5n.alloc (.cells #[] 81)
            obtain ⟨q0, hq0⟩ : ∃ q, U1.heap.size = q := ⟨_, rfl⟩
            have hq0B : B ≤ q0 := by rw [← hq0, ← hB.out]; exact hHeld.size
            have hq0n : Blk (U1.alloc (.cells #[] 81)) q0 81 [] := by rw [← hq0]; exact Blk.new U1 81 []
            have hU0s : (U1.alloc (.cells #[] 81)).heap.size = q0 + 1 := by rw [World.size_alloc, hq0]
            rw [hq0]
            clear hHeld
            have hHeld := hHeld2
            clear hHeld2
            clear hq5n
            have hq5n := hq5n2
            clear hq5n2
            generalize World.alloc U1 (.cells #[] 81) = U0 at *

            refine wpAnyH_ready (rs := [2]) (by kernel_rfl) (by simp) ?_
            refine AllReadyH.cons (o := { dst := some 46, op := Op.call { callee := Callee.builtin Builtin.append, args := #[Operand.tmp 44, Operand.tmp 45], argTypes := #[36, 36] }, type := 36, pos := "ref.go:136", after := #[{ on := 0, ground := Ground.data }, { on := 1, ground := Ground.data }], guard := none }) rfl (fun K hK => ?_) AllReadyH.nil
            rw [if_pos (by rfl)]
            obtain ⟨va, vc, W2, hr2, ho2, hb2, hg2, hs2⟩ := put_ap hB.out hsbB hq0B hHeld hq0n (hES6.out.below hHeld)
            show Oper.wp _ _ _ _ K _
            refine wp_append_run rfl _ _ rfl rfl (hr2 _) ?_
            refine hK.out _ _ hb2 (fun _ => ?_)
            clear hK K
            try simp only [Act.put, List.setIfInBounds_toArray, List.set_cons_zero, List.set_cons_succ]
            have hs2v : ∀ {g}, (Value.slice va m vc).ownBlock = some g → g = q0 ∨ g = U0.heap.size := fun {g} e => by cases va with | none => simp [Value.ownBlock] at e | some ad => simp only [Value.ownBlock, Option.some.injEq] at e; rw [← e]; exact hs2 ad rfl
            exact K3 q0 va vc q5 W2 hb2 ho2 (hq5n.grown hg2 (fun e => by injection e with e; omega)) (fun g e => by rcases hs2v e with h | h <;> omega) hq5B
        case k3 =>
          intro q0 v1a v1c q5 WZ hHeld ho h5 hne hB5
          have hv1 := ho.lt
          obtain ⟨da2, dc2, W7, hr7, hbs7, hg7, hs7⟩ := append_by0 h5 (HD'.out.below (hP6.out.bel.trans (hHeld.mono hP6.out.bel.size))) (by omega)
          have hHeld7 : Below w6.heap.size w6 W7 := below_grown hHeld hg7 hHeld.size (by rw [hB.out]; exact hB5)
          have ho7 : OwnR sb B W7 (.slice v1a m v1c) l := ho.kept hg7 (by omega) (fun e => hne _ e rfl)
          have hEe : OkE ⟨kind, D, data, false⟩ := ⟨hdd.out.1, hdd.out.2, hEk.out.1, hEk.out.2, by rw [hlnd.out]; exact hdn⟩
          have hBZ : B ≤ WZ.heap.size := by rw [← hB.out]; exact hHeld.size
          have hBK : BK (fun b => B ≤ b ∧ (Value.slice v1a m v1c).ownBlock ≠ some b) W7 da2 dn dc2 data := BK.of hbs7 (fun ad e => by
            rcases hs7 ad e with h | h
            · exact ⟨by rw [h]; exact hB5, fun e2 => hne _ e2 h⟩
            · exact ⟨by rw [h]; exact hBZ, fun e2 => by have := (hv1 _ e2).2; omega⟩)
          have hB7 : B ≤ W7.heap.size := by rw [← hB.out]; exact hHeld7.size
          obtain ⟨a9, c9, W10, hr10, hES10, hb10⟩ := append_last (e := ⟨kind, D, data, false⟩) ho7 (by omega) hB7 hEe hBK (by rw [hm.out]; omega)
          have hHeld10 : Below w6.heap.size w6 W10 := by have := hb10 w6 (by rw [← hB.out]; exact hHeld7); rw [hB.out]; exact this
          rw [hm.out] at hr10 hES10
          have hbe := fun W => build_ent hdd.out.1 kind data da2 dn dc2 W
          have hre := fun W => row_ent (e := ⟨kind, D, data, false⟩) hdd.out.1 da2 dn dc2 W
          obtain ⟨EE, hEE⟩ : ∃ E, Hid (entC ⟨kind, D, data, false⟩ da2 dn dc2 = E) := ⟨_, rfl⟩
          rw [hEE.out] at hr10
          have hbe2 : ∀ W, (Instr.build 81 #[(0, .int .i64 kind), (1, .agg DD.toArray), (2, .slice da2 dn dc2)]).run Tryz.prog W = .ok (.agg EE.toArray) W := fun W => by rw [← hEE.out, ← hDD.out]; exact hbe W
          have hre2 : ∀ W, (Instr.buildSlice 36 1 #[(0, .agg EE.toArray)]).run Tryz.prog W = .ok (.slice (some ⟨W.heap.size, 0, none⟩) 1 1) (W.alloc (.cells EE.toArray 81)) := fun W => by rw [← hEE.out]; exact hre W
          clear hbe hre hEE
          refine wpAnyH_ready (rs := [7]) (by kernel_rfl) (by simp) ?_
          refine AllReadyH.cons (o := { dst := some 51, op := Op.call { callee := Callee.builtin Builtin.append, args := #[Operand.tmp 49, Operand.tmp 50], argTypes := #[33, 33] }, type := 33, pos := "ref.go:136", after := #[{ on := 5, ground := Ground.data }, { on := 6, ground := Ground.data }, { on := 2, ground := Ground.chain }], guard := none }) rfl (fun K hK => ?_) AllReadyH.nil
          rw [if_pos (by rfl)]
          show Oper.wp _ _ _ _ K _
          refine wp_append_run rfl _ _ rfl rfl (hr7 _) ?_
          refine hK.out _ _ hHeld7 (fun hHeld2 => ?_)
          clear hK K
          try simp only [Act.put, List.setIfInBounds_toArray, List.set_cons_zero, List.set_cons_succ]
          clear hHeld
          have hHeld := hHeld7
          refine wpAnyH_take (i := 8) (oi := { dst := some 52, op := Op.build 81 #[(0, Operand.tmp 47), (1, Operand.tmp 48), (2, Operand.tmp 51)], type := 81, pos := "ref.go:136", after := #[{ on := 3, ground := Ground.data }, { on := 4, ground := Ground.data }, { on := 7, ground := Ground.data }], guard := none }) rfl (by kernel_rfl) (by kernel_rfl) (by kernel_rfl) (fun _ _ _ h => h) (hold_build (by rfl) _ _ rfl #[(0, .int .i64 kind), (1, .agg DD.toArray), (2, .slice da2 dn dc2)] (by simp only [List.map_toArray, List.map_cons, List.map_nil]; rfl) hbe2) hHeld ?_
          try simp only [Act.put, List.setIfInBounds_toArray, List.set_cons_zero, List.set_cons_succ]
          refine wpAnyH_ready (rs := [9]) (by kernel_rfl) (by simp) ?_
          refine AllReadyH.cons (o := { dst := some 53, op := Op.buildSlice 36 1 #[(0, Operand.tmp 52)], type := 36, pos := "ref.go:136", after := #[{ on := 8, ground := Ground.data }], guard := none }) rfl (fun K hK => ?_) AllReadyH.nil
          rw [if_pos (by rfl)]
          show Oper.wp _ _ _ _ K _
          refine wp_bslice 36 1 _ rfl #[(0, .agg EE.toArray)] (by simp only [List.map_toArray, List.map_cons, List.map_nil]; rfl) (hre2 _) ?_
          refine hK.out _ _ (hHeld.alloc hHeld.size _) (fun hHeld2 => ?_)
          clear hK K
          try simp only [Act.put, List.setIfInBounds_toArray, List.set_cons_zero, List.set_cons_succ]
          refine wpAnyH_ready (rs := [10]) (by kernel_rfl) (by simp) ?_
          refine AllReadyH.cons (o := { dst := some 54, op := Op.call { callee := Callee.builtin Builtin.append, args := #[Operand.tmp 46, Operand.tmp 53], argTypes := #[36, 36] }, type := 36, pos := "ref.go:136", after := #[{ on := 2, ground := Ground.data }, { on := 9, ground := Ground.data }, { on := 7, ground := Ground.chain }], guard := none }) rfl (fun K hK => ?_) AllReadyH.nil
          rw [if_pos (by rfl)]
          show Oper.wp _ _ _ _ K _
          refine wp_append_run rfl _ _ rfl rfl (hr10 _) ?_
          refine hK.out _ _ hHeld10 (fun hHeld2 => ?_)
          clear hK K
          try simp only [Act.put, List.setIfInBounds_toArray, List.set_cons_zero, List.set_cons_succ]
          clear hHeld
          have hHeld := hHeld10
          refine wpAnyH_take (i := 11) (oi := { dst := some 14, op := Op.assign (Operand.tmp 54), type := 36, pos := "ref.go:136", after := #[{ on := 10, ground := Ground.data }, { on := 10, ground := Ground.chain }, { on := 0, ground := Ground.phase }, { on := 1, ground := Ground.phase }, { on := 2, ground := Ground.phase }, { on := 3, ground := Ground.phase }, { on := 4, ground := Ground.phase }, { on := 5, ground := Ground.phase }, { on := 6, ground := Ground.phase }, { on := 7, ground := Ground.phase }, { on := 8, ground := Ground.phase }, { on := 9, ground := Ground.phase }, { on := 10, ground := Ground.phase }], guard := none }) (v := ?_) rfl (by kernel_rfl) (by kernel_rfl) (by kernel_rfl) (fun _ _ _ h => h) (Or.inl ⟨by rfl, ?_⟩) hHeld ?_
          rotate_left
          · intro wz hSw
            go_simp
            all_goals (with_reducible rfl)
          try simp only [Act.put, List.setIfInBounds_toArray, List.set_cons_zero, List.set_cons_succ]
          refine wpAnyH_done (by kernel_rfl) ?_ _
          have hP10 := Lib.hid (hP6.out.next hHeld)
          have hRES := Sto.withGo_ins (f := f) (l := l ++ [(⟨kind, D, data, false⟩ : Ent)]) hlb.out
          obtain ⟨RES, hRE⟩ : ∃ R, Hid (Sto.insL f (l ++ [(⟨kind, D, data, false⟩ : Ent)]) s.logs = R) := ⟨_, rfl⟩
          rw [hRE.out] at hRES
          have hwi := Lib.hid (r30with_any (fun b => b < sb ∨ B ≤ b) a n c s f hf a9 (m + 1) c9 (l ++ [(⟨kind, D, data, false⟩ : Ent)]) W10 ((HK.out.imp fun _ _ k => .inl k).below hP10.out.bel) hES10 hn4 RES hRES)
          have hvv : Hid (Sto.putS s f kind data = (⟨s.id, s.priv, RES⟩, ((m : Int) + 1, 0))) := by
            show _ = _
            rw [hv9.out]
            unfold Sto.replS Sto.putE
            rw [hde.out, hD.out, hRE.out]
          have hmm : (((m + 1 : Nat)) : Int) = (m : Int) + 1 := by omega
          have s0 := hP10.out.bS.at_ (i := 0) rfl
          have s1 := hP10.out.bS.at_ (i := 1) rfl
          have s2 := hP10.out.bS.at_ (i := 2) rfl
          have hlt10 : Hid (sb + 1 < W10.heap.size) := hP10.out.bR.lt
          have hsB2 := Lib.hid hsbB2
          clear hES10 hr10 hr7 hre2 hbe2 hHeld hHeld7 hHeld10 ho ho7 h5 hRES hRE hne hbs7 hg7 hs7 hBK hb10 hv1 hEe hv9
          go_wp2_with fail
          refine hwi.out.mono ?_
          rintro e w5 ⟨a5, c5, rfl, hS5, hb5⟩
          have hP11 := Lib.hid (hP10.out.next hb5)
          obtain ⟨rl, hrl⟩ : ∃ r, Hid (RES.length = r) := ⟨_, rfl⟩
          have hfn := Lib.hid (hP11.out.fin hsb.out (.int .i64 s.id) (.int .i64 s.priv) (.slice a5 rl c5))
          simp only [] at hS5
          rw [hrl.out] at hS5
          have hend := Lib.hid (hfin.out ⟨s.id, s.priv, RES⟩ ((m : Int) + 1) 0 _ a5 c5 hvv.out (by simp only []; rw [hrl.out]; exact (hS5.imp (K' := fun b => True ∧ b ≠ sb + 1) fun b _ h => ⟨trivial, by have := hlt10.out; have := hsB2.out; omega⟩).keep (copied_keeps _ _ _ _ _) |>.imp fun _ _ _ => trivial) hfn.out.2)
          simp only [] at hend
          rw [hrl.out] at hend
          have r0 := hP11.out.bR.at_ (i := 0) rfl
          have r1 := hP11.out.bR.at_ (i := 1) rfl
          have r2 := hP11.out.bR.at_ (i := 2) rfl
          have f0 := hP11.out.bR.frozen 0
          have f1 := hP11.out.bR.frozen 1
          have f2 := hP11.out.bR.frozen 2
          simp only []
          rw [hrl.out]
          clear hwi s0 s1 s2 hS5 hb5 hP11 hP10 hfin herr
          go_wp2_with fail
          exact ret_cell_tmp_tmpV (p := 8) (u := 9) (u2 := 10) rfl hfn.out.1 Tryz.underlying24 rfl size26 rfl rfl rfl rfl hend.out
  · have q0 : (q != 0) = true := by simpa using hq0
    have hfn := Lib.hid (hP1.out.fin hsb.out (.int .i64 0) (.int .i64 0) (.slice none 0 0))
    have hend := Lib.hid (herr.out q _ (by rw [Sto.putS_open (by rw [hq.out]; exact hq0), hq.out]) hfn.out.2)
    have r0 := hP1.out.bR.at_ (i := 0) rfl
    have r1 := hP1.out.bR.at_ (i := 1) rfl
    have r2 := hP1.out.bR.at_ (i := 2) rfl
    have f0 := hP1.out.bR.frozen 0
    have f1 := hP1.out.bR.frozen 1
    have f2 := hP1.out.bR.frozen 2
    clear hfin herr hen hP1
    go_wp2_with fail
    exact ret_cell_tmp_tmpV (p := 8) (u := 9) (u2 := 10) rfl hfn.out.1 Tryz.underlying24 rfl size26 rfl rfl rfl rfl hend.out

end Go.Proofs.YtlpgjdlkjahdgaaGreatDoor
