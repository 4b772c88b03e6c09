/- the reference 30: New, Check -/
import Derived.Test.YtnonfdcbnkdmcaaGreatDoorRsA
import Derived.Test.YtnonfdcbnkdmcaaGreatDoorSgA
import Derived.Test.YtnonfdcbnkdmcaaGreatDoorSgn3
import Derived.Test.YtnonfdcbnkdmcaaGreatDoorStA
namespace Go.Proofs.YtnonfdcbnkdmcaaGreatDoor
open Go.RowKit Go.Mem
open Go.Sto (Ent Lg St)

theorem base_ok30 : Grp.ok 4 = true := by
  unfold Grp.ok
  rw [decide_eq_true_iff]
  exact ⟨by decide, by decide, Grp.base_ord⟩
theorem r30pub_any (x : Int) (w : World) : Calls Tryz.prog 93 #[.int .i64 x] w (RetQQ (publicK 4 x) w) := r5public_b 4 base_ok30 r4base_any x w

set_option maxRecDepth 20000 in
set_option maxHeartbeats 8000000 in
theorem r30check_any (K : Nat → Prop) (a : Option Addr) (n c : Nat) (s : St) (w : World) (H : SV K w a n c s) :
    Calls Tryz.prog 42 #[.agg #[.int .i64 s.id, .int .i64 s.priv, .slice a n c]] w (RetI (Sto.chkS s) w) := by
  have hlen := H.ls.rs.len
  have hbd := H.ls.bd
  have n63 : (n : Int) ≤ 100000 := by omega
  obtain ⟨sb, hsb⟩ : ∃ sb, Hid (w.heap.size = sb) := ⟨_, rfl⟩
  obtain ⟨W0, hW0⟩ : ∃ W, Hid (w.alloc (.cells #[.int .i64 s.id, .int .i64 s.priv, .slice a n c] 24) = W) := ⟨_, rfl⟩
  have hB : Hid (Blk W0 sb 24 (stC s a n c)) := by rw [← hW0.out, ← hsb.out]; exact Blk.new w _ (stC s a n c)
  have hb : Hid (Below w.heap.size w W0) := by rw [← hW0.out]; exact (Below.refl _ w).alloc (Nat.le_refl _) _
  have H' := Lib.hid (H.below hb.out)
  clear H
  have hpb := Lib.hid (fun W => r30pub_any s.priv W)
  obtain ⟨X, hX⟩ : ∃ X, X = RetI (Sto.chkS s) w := ⟨_, rfl⟩
  have hf1 : Hid (∀ q W, Below W0.heap.size W0 W → Sto.chkS s = q → X (.returned (.int .i64 q)) W) := fun q W h1 h2 => by rw [hX, h2]; exact ⟨rfl, hb.out.trans (h1.mono hb.out.size)⟩
  rw [← hX]
  clear hX
  have s0 : W0.cell? ⟨sb, 0, none⟩ = some (.int .i64 s.id) := hB.out.at_ (i := 0) rfl
  have s1 : W0.cell? ⟨sb, 1, none⟩ = some (.int .i64 s.priv) := hB.out.at_ (i := 1) rfl
  have hsc : Hid (∀ wz, Below W0.heap.size W0 wz → wz.cell? ⟨sb, 2, none⟩ = some (.slice a n c)) := fun wz h => (hB.out.below h hB.out.lt).at_ (i := 2) rfl
  have hsbl := hB.out.lt
  clear hB hb
  by_cases hne : Sto.newE s.id s.priv = 0
  · have hnn : 0 ≤ s.id ∧ s.id < 4 ∧ Sto.keyB s.priv = true := by
      unfold Sto.newE at hne
      split at hne
      · rename_i h
        refine ⟨h.1, h.2, ?_⟩
        cases hk : Sto.keyB s.priv with
        | true => rfl
        | false => rw [hk] at hne; exact absurd hne (by decide)
      · exact absurd hne (by decide)
    obtain ⟨h0, h1, hk⟩ := hnn
    rw [publicK_t (show keyOk s.priv = true from hk)] at hpb
    generalize pubB 4 s.priv = pb at *
    have hchk : Hid (∀ z, Sto.logsB (-1) s.logs = z → Sto.chkS s = if z then 0 else 300) := fun z hz => by
      unfold Sto.chkS
      cases z
      · rw [if_neg (by rw [hz]; simp)]; rfl
      · rw [if_pos ⟨hne, hz⟩]; rfl
    have hf0 := Lib.hid (fun W h (h2 : Sto.logsB (-1) s.logs = true) => hf1.out 0 W h (by rw [hchk.out _ h2]; rfl))
    have hf3 := Lib.hid (fun W h (h2 : Sto.logsB (-1) s.logs = false) => hf1.out 300 W h (by rw [hchk.out _ h2]; rfl))
    clear hf1 hchk hne hk
    go_enter Tryz.func42, Tryz.ntmps42
    go_wp2_with (first | (rw [hW0.out, hsb.out]) | (rw [hW0.out]))
    refine (hpb.out _).mono ?_
    rintro e w1 ⟨rfl, hw1⟩
    rw [hw1]
    clear hw1 w1
    clear hpb
    have s2 := hsc.out W0 (Below.refl _ _)
    go_wp2_with fail
    clear s0 s1 s2
    go_loopw [5] (fun i wr => ∃ (k : Nat) (p : Int), k ≤ n ∧ i = .int .i64 (k : Int) ∧ Hid (Below W0.heap.size W0 wr) ∧ Hid (PrevF s.logs k p) ∧ Hid (Sto.logsB (-1) s.logs = Sto.logsB p (s.logs.drop k))) (fun i _ => n - (intOf i).toNat)
    case atStart => exact ⟨0, -1, Nat.zero_le _, rfl, Below.refl _ _, .inl ⟨rfl, rfl⟩, rfl⟩
    case round =>
      obtain ⟨k, p, hk, rfl, hbo, hp, hl⟩ := hrel
      have s2 := hsc.out wr hbo.out
      by_cases hlt : k < n
      · have hkl : k < s.logs.length := by omega
        obtain ⟨x, hx⟩ : ∃ x, s.logs[k]? = some x := ⟨_, List.getElem?_eq_getElem hkl⟩
        have hl' := hl.out
        rw [List.drop_eq_getElem_cons hkl, (List.getElem?_eq_some_iff.1 hx).2] at hl'
        obtain ⟨b, off, ea, en, ec, rfl, hbl, _, hfo, hes, c0, c1⟩ := (H'.out.below hbo.out).ls.cells hx
        obtain ⟨g, hg⟩ : ∃ g, Hid (wr.heap.size = g) := ⟨_, rfl⟩
        obtain ⟨W2, hWW⟩ : ∃ W2, Hid (wr.alloc (.cells #[.int .i64 x.folder, .slice ea en ec] 121) = W2) := ⟨_, rfl⟩
        have hW2 : Below wr.heap.size wr W2 := by rw [← hWW.out]; exact (Below.refl _ _).alloc (Nat.le_refl _) _
        have hG : Hid (Blk W2 g 121 [.int .i64 x.folder, .slice ea en ec]) := by rw [← hWW.out, ← hg.out]; exact Blk.new wr 121 [.int .i64 x.folder, .slice ea en ec]
        have g0 := hG.out.at_ (i := 0) rfl
        have g1 := hG.out.at_ (i := 1) rfl
        have hbW := Lib.hid (hbo.out.trans (hW2.mono hbo.out.size))
        have s3 := hsc.out W2 hbW.out
        have hE : Hid (ES K W2 ea en ec x.es) := hes.below hW2
        have hel := hes.rs.len
        have heb := hes.bd
        have e63 : (en : Int) ≤ 100000 := by omega
        have hgl := hG.out.lt
        have hbl2 : b < W2.heap.size := Nat.lt_of_lt_of_le hbl hW2.size
        have d0 : W2.cell? ⟨b, off + k * 2, none⟩ = some (.int .i64 x.folder) := (hW2.cell (p := ⟨b, _, none⟩) hbl).trans c0
        have k0 : (0 : Int) ≤ (k : Int) := by omega
        have k1 : (k : Int) < (n : Int) := by omega
        have kw : IntKind.i64.wrap ((k : Int) + 1) = (k : Int) + 1 := IntWalk.i64_in _ (by omega)
        have hbadq0 : Hid (Sto.folderB x.folder = false ∨ ¬ p < x.folder ∨ Sto.fineB x.es = false → ∀ m, X (.returned (.int .i64 300)) (W2.drewN m)) := fun h m => hf3.out _ (hbW.out.trans ((below_drewN W2 m _))) (by
          rw [hl.out, List.drop_eq_getElem_cons hkl, (List.getElem?_eq_some_iff.1 hx).2]
          unfold Sto.logsB
          rcases h with h | h | h
          · rw [h]; rfl
          · rw [decide_eq_false h, Bool.and_false]; rfl
          · rw [h, Bool.and_false]; rfl)
        have hnp : Hid (PrevF s.logs (k + 1) x.folder) := .inr ⟨k, x, rfl, hx, rfl⟩
        have hlg : Hid (Sto.logsB (-1) s.logs = (Sto.folderB x.folder && decide (p < x.folder) && Sto.fineB x.es && Sto.logsB x.folder (s.logs.drop (k + 1)))) := by
          show _ = _
          rw [hl']; rfl
        have hx' := Lib.hid hx
        clear hes hl' hl hx hW2
        by_cases hf0a : x.folder < 0
        · have g2 : decide (x.folder < 0) = true := decide_eq_true hf0a
          have hbadq := Lib.hid (hbadq0.out (.inl (by unfold Sto.folderB; rw [decide_eq_false]; omega)))
          clear hbadq0 d0
          go_wp2_with fail
          rw [hg.out, hWW.out]
          go_quiet (fail)
          go_wp2_with fail
          exact hbadq.out _
        · have g2 : decide (x.folder < 0) = false := decide_eq_false hf0a
          by_cases hf1a : 16 ≤ x.folder
          · have g5 : decide (16 ≤ x.folder) = true := decide_eq_true hf1a
            have hbadq := Lib.hid (hbadq0.out (.inl (by unfold Sto.folderB; rw [decide_eq_false]; omega)))
            clear hbadq0 d0
            go_wp2_with fail
            rw [hg.out, hWW.out]
            go_quiet (fail)
            go_wp2_with fail
            exact hbadq.out _
          · have g5 : decide (16 ≤ x.folder) = false := decide_eq_false hf1a
            have hff : Sto.folderB x.folder = true := by unfold Sto.folderB; rw [decide_eq_true]; omega
            have hgood0 : Hid (p < x.folder → (1 ≤ en ∧ en ≤ 65536) → Sto.fineGo [] x.es = true → Hid (Sto.logsB (-1) s.logs = Sto.logsB x.folder (s.logs.drop (k + 1)))) := fun h1 h2 h3 => by
              show _ = _
              rw [hlg.out, hff, decide_eq_true h1]
              unfold Sto.fineB
              rw [h3, decide_eq_true (by omega)]
              rfl
            have hinner0 : Hid (Sto.fineB x.es = false → ∀ W, Below W0.heap.size W0 W → X (.returned (.int .i64 300)) W) := fun h W hW => hf3.out W hW (by rw [hlg.out, h, Bool.and_false]; rfl)
            have hp' := hp.out
            clear hf0a hf1a hff hlg hp
            by_cases hk0 : k = 0
            · have hpl : p < x.folder := by
                have h9 := of_decide_eq_false g2
                rcases hp' with ⟨_, h⟩ | ⟨_, _, h, _⟩ <;> omega
              have hgood1 := Lib.hid (hgood0.out hpl)
              clear hgood0
              have hgood0 := hgood1
              have kz : decide ((0 : Int) < (k : Int)) = false := decide_eq_false (by omega)
              have kz2 : decide (0 < k) = false := decide_eq_false (by omega)
              clear hgood1 hp' d0 hpl hk0
              by_cases he0 : en < 1
              · have g3 : decide ((en : Int) < 1) = true := decide_eq_true (by omega)
                have hbadq := Lib.hid (hbadq0.out (.inr (.inr (by unfold Sto.fineB; rw [decide_eq_false (by omega : ¬ (0 < x.es.length ∧ x.es.length ≤ 65536)), Bool.and_false]))))
                clear hbadq0 hgood0 hinner0
                go_wp2_with fail
                rw [hg.out, hWW.out]
                go_quiet (fail)
                go_wp2_with fail
                exact hbadq.out _
              · have g3 : decide ((en : Int) < 1) = false := decide_eq_false (by omega)
                by_cases he1 : 65536 < en
                · have g4 : decide ((65536 : Int) < (en : Int)) = true := decide_eq_true (by omega)
                  have hbadq := Lib.hid (hbadq0.out (.inr (.inr (by unfold Sto.fineB; rw [decide_eq_false (by omega : ¬ (0 < x.es.length ∧ x.es.length ≤ 65536)), Bool.and_false]))))
                  clear hbadq0 hgood0 hinner0
                  go_wp2_with fail
                  rw [hg.out, hWW.out]
                  go_quiet (fail)
                  go_wp2_with fail
                  exact hbadq.out _
                · have g4 : decide ((65536 : Int) < (en : Int)) = false := decide_eq_false (by omega)
                  have hgood := Lib.hid (hgood0.out (by omega))
                  have hinner := Lib.hid (hinner0.out)
                  clear hbadq0 hgood0 hinner0 he0 he1
                  have hW3 : Hid (∀ m, Below W2.heap.size W2 (W2.drewN m)) := fun m => below_drewN _ _ _
                  have hgl := hG.out.lt
                  go_wp2_with fail
                  rw [hg.out, hWW.out]
                  go_quiet (fail)
                  have hgc : Hid (∀ wz, Below (W2.drewN nq).heap.size (W2.drewN nq) wz → wz.cell? ⟨g, 1, none⟩ = some (.slice ea en ec)) := fun wz h => ((hG.out.drewN nq).below h (hG.out.drewN nq).lt).at_ (i := 1) rfl
                  have hE3 : Hid (ES K (W2.drewN nq) ea en ec x.es) := hE.out.below (hW3.out nq)
                  have hb3 : Hid (Below W0.heap.size W0 (W2.drewN nq)) := hbW.out.trans ((hW3.out nq).mono hbW.out.size)
                  clear hG hE hW3 hbW g0 g1
                  generalize hWd : W2.drewN nq = W3 at *
                  clear hWd
                  go_wp2_with fail
                  obtain ⟨wO, hwO⟩ : ∃ W, W = wr := ⟨_, rfl⟩
                  go_loopw [7] (fun i wr => ∃ j : Nat, j ≤ en ∧ i = .int .i64 (j : Int) ∧ Hid (Below W3.heap.size W3 wr) ∧ Hid (Sto.fineGo [] x.es = Sto.fineGo ((x.es.take j).map (·.dig)) (x.es.drop j))) (fun i _ => en - (intOf i).toNat)
                  case atStart => exact ⟨0, Nat.zero_le _, rfl, Below.refl _ _, rfl⟩
                  case round =>
                    obtain ⟨j, hj, rfl, hbr, hf⟩ := hrel
                    have s1 := hgc.out wr hbr.out
                    by_cases hlj : j < en
                    · obtain ⟨e, he⟩ : ∃ e, x.es[j]? = some e := ⟨_, List.getElem?_eq_getElem (by omega)⟩
                      obtain ⟨eb, eo, re, rfl, hebl, _, ⟨hoe, da, dn, dc, ere, hbk⟩, hrel, hrge⟩ := hE3.out.rs.get he
                      have hrge1 := EntR1 (ere ▸ hrge) hoe.dig
                      have hrg : Hid (∀ wz, Below W3.heap.size W3 wz → wz.rangeAt eb (eo + j * 35) re) := fun wz h q v hv => (h.cell (p := ⟨eb, _, none⟩) hebl).trans (hrge q v hv)
                      have hrd : Hid (∀ wz, Below W3.heap.size W3 wz → wz.rangeAt eb (eo + j * 35 + 1) (bv e.dig)) := fun wz h q v hv => (h.cell (p := ⟨eb, _, none⟩) hebl).trans (hrge1 q v hv)
                      have hie : Hid ((Tryz.prog.info? 75).map (·.size) = some re.length) := by show _ = _; rw [hrel]; exact sizeE
                      have hdi : Hid ((Tryz.prog.info? 32).map (·.size) = some (bv e.dig).length) := by show _ = _; rw [bv_length, hoe.dig]; exact size35
                      have hbs := Lib.hid hbk.bs
                      have hen1 := Lib.hid (fun W (hW : Below W3.heap.size W3 W) => r30entry_any e hoe da dn dc re ere W (hbs.out.below hW))
                      have hdg : Dig e.dig := ⟨hoe.dig, hoe.lt⟩
                      have hnum := Lib.hid (fun W (hW : Below W3.heap.size W3 W) => r30number_any K _ en ec x.es e.dig hdg W (hE3.out.below hW))
                      have j0 : (0 : Int) ≤ (j : Int) := by omega
                      have j1 : (j : Int) < (en : Int) := by omega
                      have jw : IntKind.i64.wrap ((j : Int) + 1) = (j : Int) + 1 := IntWalk.i64_in _ (by omega)
                      obtain ⟨de, hde⟩ : ∃ d, Hid (bv e.dig = d) := ⟨_, rfl⟩
                      obtain ⟨nn, hnn⟩ : ∃ m, Hid (Sto.numE e.dig x.es = m) := ⟨_, rfl⟩
                      rw [hde.out] at hrd hdi hnum
                      rw [hnn.out] at hnum
                      obtain ⟨q, hq⟩ : ∃ q, Hid (Sto.entB e = q) := ⟨_, rfl⟩
                      rw [hq.out] at hen1
                      have he' := Lib.hid he
                      clear hrge hrge1 hbk hrel hoe ere hdg he
                      have hbad : Hid (Sto.fineGo ((x.es.take j).map (·.dig)) (x.es.drop j) = false → ∀ W, Below W3.heap.size W3 W → X (.returned (.int .i64 300)) W) := fun h W hW => hinner.out (by unfold Sto.fineB; rw [hf.out, h]; rfl) W (hb3.out.trans (hW.mono hb3.out.size))
                      cases q with
                      | false =>
                        have hbad2 := Lib.hid (hbad.out (Sto.fineGo_bad he'.out (.inl hq.out)))
                        clear hbad
                        have hbad := hbad2
                        clear hbad2 hf hq
                        go_wp2_with fail
                        refine wp_region_held_drew (S := fun wz => Below W3.heap.size W3 wz) (by kernel_rfl) (hbr.out.drew) (fun hHeld => ?_)
                        generalize wr.drew = W4 at *
                        refine wpAnyH_take (i := 0) (oi := { dst := some 81, op := Op.fieldAddr 121 (Operand.tmp 6) 1, type := 0, pos := "ref.go:70", after := #[], guard := none }) (v := ?_) rfl (by kernel_rfl) (by kernel_rfl) (by kernel_rfl) (fun _ _ _ h => h) (Or.inl ⟨by rfl, ?_⟩) hHeld ?_
                        rotate_left
                        · intro wz hSw
                          go_simp
                          all_goals (with_reducible rfl)
                        try simp only [Act.put, List.setIfInBounds_toArray, List.set_cons_zero, List.set_cons_succ]
                        refine wpAnyH_take (i := 1) (oi := { dst := some 82, op := Op.load 30 (Operand.tmp 81), type := 30, pos := "ref.go:70", after := #[{ on := 0, ground := Ground.data }], guard := none }) (v := ?_) rfl (by kernel_rfl) (by kernel_rfl) (by kernel_rfl) (fun _ _ _ h => h) (Or.inl ⟨by rfl, ?_⟩) hHeld ?_
                        rotate_left
                        · intro wz hSw
                          have q0 := hgc.out wz hSw
                          go_simp
                          all_goals (with_reducible rfl)
                        try simp only [Act.put, List.setIfInBounds_toArray, List.set_cons_zero, List.set_cons_succ]
                        refine wpAnyH_take (i := 2) (oi := { dst := some 83, op := Op.move (Operand.tmp 7), type := 3, pos := "ref.go:70", after := #[], guard := none }) (v := ?_) rfl (by kernel_rfl) (by kernel_rfl) (by kernel_rfl) (fun _ _ _ h => h) (Or.inl ⟨by rfl, ?_⟩) hHeld ?_
                        rotate_left
                        · intro wz hSw
                          go_simp
                          all_goals (with_reducible rfl)
                        try simp only [Act.put, List.setIfInBounds_toArray, List.set_cons_zero, List.set_cons_succ]
                        refine wpAnyH_take (i := 3) (oi := { dst := some 84, op := Op.indexAddr 30 (Operand.tmp 82) (Operand.tmp 83), type := 0, pos := "ref.go:70", after := #[{ on := 1, ground := Ground.data }, { on := 2, ground := Ground.data }], guard := none }) (v := ?_) rfl (by kernel_rfl) (by kernel_rfl) (by kernel_rfl) (fun _ _ _ h => h) (Or.inl ⟨by rfl, ?_⟩) hHeld ?_
                        rotate_left
                        · intro wz hSw
                          go_simp
                          all_goals (with_reducible rfl)
                        try simp only [Act.put, List.setIfInBounds_toArray, List.set_cons_zero, List.set_cons_succ]
                        refine wpAnyH_take (i := 4) (oi := { dst := some 85, op := Op.load 75 (Operand.tmp 84), type := 75, pos := "ref.go:70", after := #[{ on := 3, ground := Ground.data }], guard := none }) rfl (by kernel_rfl) (by kernel_rfl) (by kernel_rfl) (fun _ _ _ h => h) (yieldsIf_load_mid (by rfl) _ _ rfl eb (eo + j * 35) rfl (re) _ (fun wz h => hrg.out wz h) Tryz.underlying75 rfl (hie.out)) hHeld ?_
                        try simp only [Act.put, List.setIfInBounds_toArray, List.set_cons_zero, List.set_cons_succ]
                        refine wpAnyH_ready (rs := [5]) (by kernel_rfl) (by simp) ?_
                        refine AllReadyH.cons (o := { dst := some 86, op := Op.call { callee := Callee.value (Operand.func 94), args := #[Operand.tmp 85], argTypes := #[75] }, type := 4, pos := "ref.go:70", after := #[{ on := 4, ground := Ground.data }], guard := none }) rfl (fun K hK => ?_) AllReadyH.nil
                        rw [if_pos (by rfl)]
                        show Oper.wp _ _ _ _ K _
                        go_simp
                        go_at_call 94
                        refine (hen1.out W4 hHeld).mono ?_
                        rintro e W5 ⟨rfl, hb5⟩
                        refine hK.out _ _ (hHeld.trans (hb5.mono hHeld.size)) (fun hHeld2 => ?_)
                        clear hb5
                        clear hHeld
                        have hHeld := hHeld2
                        clear hHeld2
                        clear hK K
                        try simp only [Act.put, List.setIfInBounds_toArray, List.set_cons_zero, List.set_cons_succ]
                        refine wpAnyH_take (i := 6) (oi := { dst := some 87, op := Op.unOp UnOp.not 4 (Operand.tmp 86), type := 4, pos := "ref.go:70", after := #[{ on := 5, ground := Ground.data }], guard := none }) (v := ?_) rfl (by kernel_rfl) (by kernel_rfl) (by kernel_rfl) (fun _ _ _ h => h) (Or.inl ⟨by rfl, ?_⟩) hHeld ?_
                        rotate_left
                        · intro wz hSw
                          go_simp
                          all_goals (with_reducible rfl)
                        try simp only [Act.put, List.setIfInBounds_toArray, List.set_cons_zero, List.set_cons_succ]
                        refine wpAnyH_take (i := 7) (oi := { dst := some 88, op := Op.move (Operand.tmp 87), type := 4, pos := "ref.go:70", after := #[{ on := 6, ground := Ground.data }, { on := 5, ground := Ground.chain }], guard := none }) (v := ?_) rfl (by kernel_rfl) (by kernel_rfl) (by kernel_rfl) (fun _ _ _ h => h) (Or.inl ⟨by rfl, ?_⟩) hHeld ?_
                        rotate_left
                        · intro wz hSw
                          go_simp
                          all_goals (with_reducible rfl)
                        try simp only [Act.put, List.setIfInBounds_toArray, List.set_cons_zero, List.set_cons_succ]
                        refine wpAnyH_take (i := 8) (oi := { dst := some 89, op := Op.fieldAddr 121 (Operand.tmp 6) 1, type := 0, pos := "ref.go:70", after := #[{ on := 7, ground := Ground.guard }], guard := some (7, false) }) (v := undef) rfl (by kernel_rfl) (by kernel_rfl) (by kernel_rfl) (fun _ _ _ h => h) (Or.inr ⟨by rfl, rfl⟩) hHeld ?_
                        try simp only [Act.put, List.setIfInBounds_toArray, List.set_cons_zero, List.set_cons_succ]
                        refine wpAnyH_take (i := 9) (oi := { dst := some 90, op := Op.load 30 (Operand.tmp 89), type := 30, pos := "ref.go:70", after := #[{ on := 8, ground := Ground.data }, { on := 7, ground := Ground.guard }], guard := some (7, false) }) (v := undef) rfl (by kernel_rfl) (by kernel_rfl) (by kernel_rfl) (fun _ _ _ h => h) (Or.inr ⟨by rfl, rfl⟩) hHeld ?_
                        try simp only [Act.put, List.setIfInBounds_toArray, List.set_cons_zero, List.set_cons_succ]
                        refine wpAnyH_take (i := 10) (oi := { dst := some 91, op := Op.fieldAddr 121 (Operand.tmp 6) 1, type := 0, pos := "ref.go:70", after := #[{ on := 7, ground := Ground.guard }], guard := some (7, false) }) (v := undef) rfl (by kernel_rfl) (by kernel_rfl) (by kernel_rfl) (fun _ _ _ h => h) (Or.inr ⟨by rfl, rfl⟩) hHeld ?_
                        try simp only [Act.put, List.setIfInBounds_toArray, List.set_cons_zero, List.set_cons_succ]
                        refine wpAnyH_take (i := 11) (oi := { dst := some 92, op := Op.load 30 (Operand.tmp 91), type := 30, pos := "ref.go:70", after := #[{ on := 10, ground := Ground.data }, { on := 7, ground := Ground.guard }], guard := some (7, false) }) (v := undef) rfl (by kernel_rfl) (by kernel_rfl) (by kernel_rfl) (fun _ _ _ h => h) (Or.inr ⟨by rfl, rfl⟩) hHeld ?_
                        try simp only [Act.put, List.setIfInBounds_toArray, List.set_cons_zero, List.set_cons_succ]
                        refine wpAnyH_take (i := 12) (oi := { dst := some 93, op := Op.move (Operand.tmp 7), type := 3, pos := "ref.go:70", after := #[{ on := 7, ground := Ground.guard }], guard := some (7, false) }) (v := undef) rfl (by kernel_rfl) (by kernel_rfl) (by kernel_rfl) (fun _ _ _ h => h) (Or.inr ⟨by rfl, rfl⟩) hHeld ?_
                        try simp only [Act.put, List.setIfInBounds_toArray, List.set_cons_zero, List.set_cons_succ]
                        refine wpAnyH_take (i := 13) (oi := { dst := some 94, op := Op.indexAddr 30 (Operand.tmp 92) (Operand.tmp 93), type := 0, pos := "ref.go:70", after := #[{ on := 11, ground := Ground.data }, { on := 12, ground := Ground.data }, { on := 7, ground := Ground.guard }], guard := some (7, false) }) (v := undef) rfl (by kernel_rfl) (by kernel_rfl) (by kernel_rfl) (fun _ _ _ h => h) (Or.inr ⟨by rfl, rfl⟩) hHeld ?_
                        try simp only [Act.put, List.setIfInBounds_toArray, List.set_cons_zero, List.set_cons_succ]
                        refine wpAnyH_take (i := 14) (oi := { dst := some 95, op := Op.fieldAddr 75 (Operand.tmp 94) 1, type := 0, pos := "ref.go:70", after := #[{ on := 13, ground := Ground.data }, { on := 7, ground := Ground.guard }], guard := some (7, false) }) (v := undef) rfl (by kernel_rfl) (by kernel_rfl) (by kernel_rfl) (fun _ _ _ h => h) (Or.inr ⟨by rfl, rfl⟩) hHeld ?_
                        try simp only [Act.put, List.setIfInBounds_toArray, List.set_cons_zero, List.set_cons_succ]
                        refine wpAnyH_take (i := 15) (oi := { dst := some 96, op := Op.load 32 (Operand.tmp 95), type := 32, pos := "ref.go:70", after := #[{ on := 14, ground := Ground.data }, { on := 7, ground := Ground.guard }], guard := some (7, false) }) (v := undef) rfl (by kernel_rfl) (by kernel_rfl) (by kernel_rfl) (fun _ _ _ h => h) (Or.inr ⟨by rfl, rfl⟩) hHeld ?_
                        try simp only [Act.put, List.setIfInBounds_toArray, List.set_cons_zero, List.set_cons_succ]
                        refine wpAnyH_take (i := 17) (oi := { dst := some 98, op := Op.move (Operand.tmp 7), type := 3, pos := "ref.go:70", after := #[{ on := 7, ground := Ground.guard }], guard := some (7, false) }) (v := undef) rfl (by kernel_rfl) (by kernel_rfl) (by kernel_rfl) (fun _ _ _ h => h) (Or.inr ⟨by rfl, rfl⟩) hHeld ?_
                        try simp only [Act.put, List.setIfInBounds_toArray, List.set_cons_zero, List.set_cons_succ]
                        refine wpAnyH_take (i := 18) (oi := { dst := some 99, op := Op.binOp BinOp.add 3 (Operand.tmp 98) (Operand.const (Value.int IntKind.i64 1)) 3, type := 3, pos := "ref.go:70", after := #[{ on := 17, ground := Ground.data }, { on := 7, ground := Ground.guard }], guard := some (7, false) }) (v := undef) rfl (by kernel_rfl) (by kernel_rfl) (by kernel_rfl) (fun _ _ _ h => h) (Or.inr ⟨by rfl, rfl⟩) hHeld ?_
                        try simp only [Act.put, List.setIfInBounds_toArray, List.set_cons_zero, List.set_cons_succ]
                        refine wpAnyH_ready (rs := [16]) (by kernel_rfl) (by simp) ?_
                        refine AllReadyH.cons (o := { dst := some 97, op := Op.call { callee := Callee.value (Operand.func 95), args := #[Operand.tmp 90, Operand.tmp 96], argTypes := #[30, 32] }, type := 3, pos := "ref.go:70", after := #[{ on := 9, ground := Ground.data }, { on := 15, ground := Ground.data }, { on := 7, ground := Ground.chain }, { on := 7, ground := Ground.guard }], guard := some (7, false) }) rfl (fun K hK => ?_) AllReadyH.nil
                        rw [if_neg (Bool.eq_false_iff.1 (by rfl))]
                        refine hK.out _ _ hHeld (fun hHeld => ?_)
                        clear hK K
                        try simp only [Act.put, List.setIfInBounds_toArray, List.set_cons_zero, List.set_cons_succ]
                        refine wpAnyH_take (i := 19) (oi := { dst := some 100, op := Op.binOp BinOp.neq 3 (Operand.tmp 97) (Operand.tmp 99) 3, type := 4, pos := "ref.go:70", after := #[{ on := 16, ground := Ground.data }, { on := 18, ground := Ground.data }, { on := 7, ground := Ground.guard }], guard := some (7, false) }) (v := undef) rfl (by kernel_rfl) (by kernel_rfl) (by kernel_rfl) (fun _ _ _ h => h) (Or.inr ⟨by rfl, rfl⟩) hHeld ?_
                        try simp only [Act.put, List.setIfInBounds_toArray, List.set_cons_zero, List.set_cons_succ]
                        refine wpAnyH_take (i := 20) (oi := { dst := some 101, op := Op.pick (Operand.tmp 88) (Operand.const (Value.bool true)) (Operand.tmp 100), type := 4, pos := "ref.go:70", after := #[{ on := 7, ground := Ground.data }, { on := 19, ground := Ground.data }], guard := none }) (v := ?_) rfl (by kernel_rfl) (by kernel_rfl) (by kernel_rfl) (fun _ _ _ h => h) (Or.inl ⟨by rfl, ?_⟩) hHeld ?_
                        rotate_left
                        · intro wz hSw
                          go_simp
                          all_goals (with_reducible rfl)
                        try simp only [Act.put, List.setIfInBounds_toArray, List.set_cons_zero, List.set_cons_succ]
                        refine wpAnyH_done (by kernel_rfl) ?_ _
                        have hend := Lib.hid (hbad.out W5 hHeld)
                        clear hHeld
                        go_wp2_with fail
                        exact hend.out
                      | true =>
                        by_cases hne : nn = j + 1
                        · subst hne
                          have hgo2 : Hid (Sto.fineGo [] x.es = Sto.fineGo ((x.es.take (j + 1)).map (·.dig)) (x.es.drop (j + 1))) := by
                            show _ = _
                            rw [hf.out, Sto.fineGo_drop he'.out hq.out hnn.out]
                          have hjj : (((j + 1 : Nat)) : Int) = (j : Int) + 1 := by omega
                          rw [hjj] at hnum
                          clear hbad hf hq hnn he'
                          go_wp2_with fail
                          refine wp_region_held_drew (S := fun wz => Below W3.heap.size W3 wz) (by kernel_rfl) (hbr.out.drew) (fun hHeld => ?_)
                          generalize wr.drew = W4 at *
                          refine wpAnyH_take (i := 0) (oi := { dst := some 81, op := Op.fieldAddr 121 (Operand.tmp 6) 1, type := 0, pos := "ref.go:70", after := #[], guard := none }) (v := ?_) rfl (by kernel_rfl) (by kernel_rfl) (by kernel_rfl) (fun _ _ _ h => h) (Or.inl ⟨by rfl, ?_⟩) hHeld ?_
                          rotate_left
                          · intro wz hSw
                            go_simp
                            all_goals (with_reducible rfl)
                          try simp only [Act.put, List.setIfInBounds_toArray, List.set_cons_zero, List.set_cons_succ]
                          refine wpAnyH_take (i := 1) (oi := { dst := some 82, op := Op.load 30 (Operand.tmp 81), type := 30, pos := "ref.go:70", after := #[{ on := 0, ground := Ground.data }], guard := none }) (v := ?_) rfl (by kernel_rfl) (by kernel_rfl) (by kernel_rfl) (fun _ _ _ h => h) (Or.inl ⟨by rfl, ?_⟩) hHeld ?_
                          rotate_left
                          · intro wz hSw
                            have q0 := hgc.out wz hSw
                            go_simp
                            all_goals (with_reducible rfl)
                          try simp only [Act.put, List.setIfInBounds_toArray, List.set_cons_zero, List.set_cons_succ]
                          refine wpAnyH_take (i := 2) (oi := { dst := some 83, op := Op.move (Operand.tmp 7), type := 3, pos := "ref.go:70", after := #[], guard := none }) (v := ?_) rfl (by kernel_rfl) (by kernel_rfl) (by kernel_rfl) (fun _ _ _ h => h) (Or.inl ⟨by rfl, ?_⟩) hHeld ?_
                          rotate_left
                          · intro wz hSw
                            go_simp
                            all_goals (with_reducible rfl)
                          try simp only [Act.put, List.setIfInBounds_toArray, List.set_cons_zero, List.set_cons_succ]
                          refine wpAnyH_take (i := 3) (oi := { dst := some 84, op := Op.indexAddr 30 (Operand.tmp 82) (Operand.tmp 83), type := 0, pos := "ref.go:70", after := #[{ on := 1, ground := Ground.data }, { on := 2, ground := Ground.data }], guard := none }) (v := ?_) rfl (by kernel_rfl) (by kernel_rfl) (by kernel_rfl) (fun _ _ _ h => h) (Or.inl ⟨by rfl, ?_⟩) hHeld ?_
                          rotate_left
                          · intro wz hSw
                            go_simp
                            all_goals (with_reducible rfl)
                          try simp only [Act.put, List.setIfInBounds_toArray, List.set_cons_zero, List.set_cons_succ]
                          refine wpAnyH_take (i := 4) (oi := { dst := some 85, op := Op.load 75 (Operand.tmp 84), type := 75, pos := "ref.go:70", after := #[{ on := 3, ground := Ground.data }], guard := none }) rfl (by kernel_rfl) (by kernel_rfl) (by kernel_rfl) (fun _ _ _ h => h) (yieldsIf_load_mid (by rfl) _ _ rfl eb (eo + j * 35) rfl (re) _ (fun wz h => hrg.out wz h) Tryz.underlying75 rfl (hie.out)) hHeld ?_
                          try simp only [Act.put, List.setIfInBounds_toArray, List.set_cons_zero, List.set_cons_succ]
                          refine wpAnyH_ready (rs := [5]) (by kernel_rfl) (by simp) ?_
                          refine AllReadyH.cons (o := { dst := some 86, op := Op.call { callee := Callee.value (Operand.func 94), args := #[Operand.tmp 85], argTypes := #[75] }, type := 4, pos := "ref.go:70", after := #[{ on := 4, ground := Ground.data }], guard := none }) rfl (fun K hK => ?_) AllReadyH.nil
                          rw [if_pos (by rfl)]
                          show Oper.wp _ _ _ _ K _
                          go_simp
                          go_at_call 94
                          refine (hen1.out W4 hHeld).mono ?_
                          rintro e W5 ⟨rfl, hb5⟩
                          refine hK.out _ _ (hHeld.trans (hb5.mono hHeld.size)) (fun hHeld2 => ?_)
                          clear hb5
                          clear hHeld
                          have hHeld := hHeld2
                          clear hHeld2
                          clear hK K
                          try simp only [Act.put, List.setIfInBounds_toArray, List.set_cons_zero, List.set_cons_succ]
                          refine wpAnyH_take (i := 6) (oi := { dst := some 87, op := Op.unOp UnOp.not 4 (Operand.tmp 86), type := 4, pos := "ref.go:70", after := #[{ on := 5, ground := Ground.data }], guard := none }) (v := ?_) rfl (by kernel_rfl) (by kernel_rfl) (by kernel_rfl) (fun _ _ _ h => h) (Or.inl ⟨by rfl, ?_⟩) hHeld ?_
                          rotate_left
                          · intro wz hSw
                            go_simp
                            all_goals (with_reducible rfl)
                          try simp only [Act.put, List.setIfInBounds_toArray, List.set_cons_zero, List.set_cons_succ]
                          refine wpAnyH_take (i := 7) (oi := { dst := some 88, op := Op.move (Operand.tmp 87), type := 4, pos := "ref.go:70", after := #[{ on := 6, ground := Ground.data }, { on := 5, ground := Ground.chain }], guard := none }) (v := ?_) rfl (by kernel_rfl) (by kernel_rfl) (by kernel_rfl) (fun _ _ _ h => h) (Or.inl ⟨by rfl, ?_⟩) hHeld ?_
                          rotate_left
                          · intro wz hSw
                            go_simp
                            all_goals (with_reducible rfl)
                          try simp only [Act.put, List.setIfInBounds_toArray, List.set_cons_zero, List.set_cons_succ]
                          refine wpAnyH_take (i := 8) (oi := { dst := some 89, op := Op.fieldAddr 121 (Operand.tmp 6) 1, type := 0, pos := "ref.go:70", after := #[{ on := 7, ground := Ground.guard }], guard := some (7, false) }) (v := ?_) rfl (by kernel_rfl) (by kernel_rfl) (by kernel_rfl) (fun _ _ _ h => h) (Or.inl ⟨by rfl, ?_⟩) hHeld ?_
                          rotate_left
                          · intro wz hSw
                            go_simp
                            all_goals (with_reducible rfl)
                          try simp only [Act.put, List.setIfInBounds_toArray, List.set_cons_zero, List.set_cons_succ]
                          refine wpAnyH_take (i := 9) (oi := { dst := some 90, op := Op.load 30 (Operand.tmp 89), type := 30, pos := "ref.go:70", after := #[{ on := 8, ground := Ground.data }, { on := 7, ground := Ground.guard }], guard := some (7, false) }) (v := ?_) rfl (by kernel_rfl) (by kernel_rfl) (by kernel_rfl) (fun _ _ _ h => h) (Or.inl ⟨by rfl, ?_⟩) hHeld ?_
                          rotate_left
                          · intro wz hSw
                            have q0 := hgc.out wz hSw
                            go_simp
                            all_goals (with_reducible rfl)
                          try simp only [Act.put, List.setIfInBounds_toArray, List.set_cons_zero, List.set_cons_succ]
                          refine wpAnyH_take (i := 10) (oi := { dst := some 91, op := Op.fieldAddr 121 (Operand.tmp 6) 1, type := 0, pos := "ref.go:70", after := #[{ on := 7, ground := Ground.guard }], guard := some (7, false) }) (v := ?_) rfl (by kernel_rfl) (by kernel_rfl) (by kernel_rfl) (fun _ _ _ h => h) (Or.inl ⟨by rfl, ?_⟩) hHeld ?_
                          rotate_left
                          · intro wz hSw
                            go_simp
                            all_goals (with_reducible rfl)
                          try simp only [Act.put, List.setIfInBounds_toArray, List.set_cons_zero, List.set_cons_succ]
                          refine wpAnyH_take (i := 11) (oi := { dst := some 92, op := Op.load 30 (Operand.tmp 91), type := 30, pos := "ref.go:70", after := #[{ on := 10, ground := Ground.data }, { on := 7, ground := Ground.guard }], guard := some (7, false) }) (v := ?_) rfl (by kernel_rfl) (by kernel_rfl) (by kernel_rfl) (fun _ _ _ h => h) (Or.inl ⟨by rfl, ?_⟩) hHeld ?_
                          rotate_left
                          · intro wz hSw
                            have q0 := hgc.out wz hSw
                            go_simp
                            all_goals (with_reducible rfl)
                          try simp only [Act.put, List.setIfInBounds_toArray, List.set_cons_zero, List.set_cons_succ]
                          refine wpAnyH_take (i := 12) (oi := { dst := some 93, op := Op.move (Operand.tmp 7), type := 3, pos := "ref.go:70", after := #[{ on := 7, ground := Ground.guard }], guard := some (7, false) }) (v := ?_) rfl (by kernel_rfl) (by kernel_rfl) (by kernel_rfl) (fun _ _ _ h => h) (Or.inl ⟨by rfl, ?_⟩) hHeld ?_
                          rotate_left
                          · intro wz hSw
                            go_simp
                            all_goals (with_reducible rfl)
                          try simp only [Act.put, List.setIfInBounds_toArray, List.set_cons_zero, List.set_cons_succ]
                          refine wpAnyH_take (i := 13) (oi := { dst := some 94, op := Op.indexAddr 30 (Operand.tmp 92) (Operand.tmp 93), type := 0, pos := "ref.go:70", after := #[{ on := 11, ground := Ground.data }, { on := 12, ground := Ground.data }, { on := 7, ground := Ground.guard }], guard := some (7, false) }) (v := ?_) rfl (by kernel_rfl) (by kernel_rfl) (by kernel_rfl) (fun _ _ _ h => h) (Or.inl ⟨by rfl, ?_⟩) hHeld ?_
                          rotate_left
                          · intro wz hSw
                            go_simp
                            all_goals (with_reducible rfl)
                          try simp only [Act.put, List.setIfInBounds_toArray, List.set_cons_zero, List.set_cons_succ]
                          refine wpAnyH_take (i := 14) (oi := { dst := some 95, op := Op.fieldAddr 75 (Operand.tmp 94) 1, type := 0, pos := "ref.go:70", after := #[{ on := 13, ground := Ground.data }, { on := 7, ground := Ground.guard }], guard := some (7, false) }) (v := ?_) rfl (by kernel_rfl) (by kernel_rfl) (by kernel_rfl) (fun _ _ _ h => h) (Or.inl ⟨by rfl, ?_⟩) hHeld ?_
                          rotate_left
                          · intro wz hSw
                            go_simp
                            all_goals (with_reducible rfl)
                          try simp only [Act.put, List.setIfInBounds_toArray, List.set_cons_zero, List.set_cons_succ]
                          refine wpAnyH_take (i := 15) (oi := { dst := some 96, op := Op.load 32 (Operand.tmp 95), type := 32, pos := "ref.go:70", after := #[{ on := 14, ground := Ground.data }, { on := 7, ground := Ground.guard }], guard := some (7, false) }) rfl (by kernel_rfl) (by kernel_rfl) (by kernel_rfl) (fun _ _ _ h => h) (yieldsIf_load_mid (by rfl) _ _ rfl eb (eo + j * 35 + 1) rfl (de) _ (fun wz h => hrd.out wz h) Tryz.underlying32 rfl (hdi.out)) hHeld ?_
                          try simp only [Act.put, List.setIfInBounds_toArray, List.set_cons_zero, List.set_cons_succ]
                          refine wpAnyH_take (i := 17) (oi := { dst := some 98, op := Op.move (Operand.tmp 7), type := 3, pos := "ref.go:70", after := #[{ on := 7, ground := Ground.guard }], guard := some (7, false) }) (v := ?_) rfl (by kernel_rfl) (by kernel_rfl) (by kernel_rfl) (fun _ _ _ h => h) (Or.inl ⟨by rfl, ?_⟩) hHeld ?_
                          rotate_left
                          · intro wz hSw
                            go_simp
                            all_goals (with_reducible rfl)
                          try simp only [Act.put, List.setIfInBounds_toArray, List.set_cons_zero, List.set_cons_succ]
                          refine wpAnyH_take (i := 18) (oi := { dst := some 99, op := Op.binOp BinOp.add 3 (Operand.tmp 98) (Operand.const (Value.int IntKind.i64 1)) 3, type := 3, pos := "ref.go:70", after := #[{ on := 17, ground := Ground.data }, { on := 7, ground := Ground.guard }], guard := some (7, false) }) (v := ?_) rfl (by kernel_rfl) (by kernel_rfl) (by kernel_rfl) (fun _ _ _ h => h) (Or.inl ⟨by rfl, ?_⟩) hHeld ?_
                          rotate_left
                          · intro wz hSw
                            go_simp
                            all_goals (with_reducible rfl)
                          try simp only [Act.put, List.setIfInBounds_toArray, List.set_cons_zero, List.set_cons_succ]
                          refine wpAnyH_ready (rs := [16]) (by kernel_rfl) (by simp) ?_
                          refine AllReadyH.cons (o := { dst := some 97, op := Op.call { callee := Callee.value (Operand.func 95), args := #[Operand.tmp 90, Operand.tmp 96], argTypes := #[30, 32] }, type := 3, pos := "ref.go:70", after := #[{ on := 9, ground := Ground.data }, { on := 15, ground := Ground.data }, { on := 7, ground := Ground.chain }, { on := 7, ground := Ground.guard }], guard := some (7, false) }) rfl (fun K hK => ?_) AllReadyH.nil
                          rw [if_pos (by rfl)]
                          show Oper.wp _ _ _ _ K _
                          go_simp
                          go_at_call 95
                          refine (hnum.out W5 hHeld).mono ?_
                          rintro e W6 ⟨rfl, hb6⟩
                          refine hK.out _ _ (hHeld.trans (hb6.mono hHeld.size)) (fun hHeld2 => ?_)
                          clear hb6
                          clear hHeld
                          have hHeld := hHeld2
                          clear hHeld2
                          clear hK K
                          try simp only [Act.put, List.setIfInBounds_toArray, List.set_cons_zero, List.set_cons_succ]
                          refine wpAnyH_take (i := 19) (oi := { dst := some 100, op := Op.binOp BinOp.neq 3 (Operand.tmp 97) (Operand.tmp 99) 3, type := 4, pos := "ref.go:70", after := #[{ on := 16, ground := Ground.data }, { on := 18, ground := Ground.data }, { on := 7, ground := Ground.guard }], guard := some (7, false) }) (v := ?_) rfl (by kernel_rfl) (by kernel_rfl) (by kernel_rfl) (fun _ _ _ h => h) (Or.inl ⟨by rfl, ?_⟩) hHeld ?_
                          rotate_left
                          · intro wz hSw
                            go_simp
                            all_goals (with_reducible rfl)
                          try simp only [Act.put, List.setIfInBounds_toArray, List.set_cons_zero, List.set_cons_succ]
                          refine wpAnyH_take (i := 20) (oi := { dst := some 101, op := Op.pick (Operand.tmp 88) (Operand.const (Value.bool true)) (Operand.tmp 100), type := 4, pos := "ref.go:70", after := #[{ on := 7, ground := Ground.data }, { on := 19, ground := Ground.data }], guard := none }) (v := ?_) rfl (by kernel_rfl) (by kernel_rfl) (by kernel_rfl) (fun _ _ _ h => h) (Or.inl ⟨by rfl, ?_⟩) hHeld ?_
                          rotate_left
                          · intro wz hSw
                            go_simp
                            all_goals (with_reducible rfl)
                          try simp only [Act.put, List.setIfInBounds_toArray, List.set_cons_zero, List.set_cons_succ]
                          refine wpAnyH_done (by kernel_rfl) ?_ _
                          have hb9 := Lib.hid hHeld
                          clear hHeld
                          go_wp2_with fail
                          go_roundw
                          case rel => exact ⟨j + 1, by omega, by go_num, hb9, hgo2⟩
                          case measure => simp [intOf]; omega
                        · have hbad2 := Lib.hid (hbad.out (Sto.fineGo_bad he'.out (.inr (by rw [hnn.out]; exact hne))))
                          clear hbad
                          have hbad := hbad2
                          have hnq : decide ((nn : Int) = (j : Int) + 1) = false := decide_eq_false (by omega)
                          have hnq2 : ((nn : Int) == (j : Int) + 1) = false := by rw [beq_eq_false_iff_ne]; omega
                          clear hbad2 hf hq hnn he'
                          go_wp2_with fail
                          refine wp_region_held_drew (S := fun wz => Below W3.heap.size W3 wz) (by kernel_rfl) (hbr.out.drew) (fun hHeld => ?_)
                          generalize wr.drew = W4 at *
                          refine wpAnyH_take (i := 0) (oi := { dst := some 81, op := Op.fieldAddr 121 (Operand.tmp 6) 1, type := 0, pos := "ref.go:70", after := #[], guard := none }) (v := ?_) rfl (by kernel_rfl) (by kernel_rfl) (by kernel_rfl) (fun _ _ _ h => h) (Or.inl ⟨by rfl, ?_⟩) hHeld ?_
                          rotate_left
                          · intro wz hSw
                            go_simp
                            all_goals (with_reducible rfl)
                          try simp only [Act.put, List.setIfInBounds_toArray, List.set_cons_zero, List.set_cons_succ]
                          refine wpAnyH_take (i := 1) (oi := { dst := some 82, op := Op.load 30 (Operand.tmp 81), type := 30, pos := "ref.go:70", after := #[{ on := 0, ground := Ground.data }], guard := none }) (v := ?_) rfl (by kernel_rfl) (by kernel_rfl) (by kernel_rfl) (fun _ _ _ h => h) (Or.inl ⟨by rfl, ?_⟩) hHeld ?_
                          rotate_left
                          · intro wz hSw
                            have q0 := hgc.out wz hSw
                            go_simp
                            all_goals (with_reducible rfl)
                          try simp only [Act.put, List.setIfInBounds_toArray, List.set_cons_zero, List.set_cons_succ]
                          refine wpAnyH_take (i := 2) (oi := { dst := some 83, op := Op.move (Operand.tmp 7), type := 3, pos := "ref.go:70", after := #[], guard := none }) (v := ?_) rfl (by kernel_rfl) (by kernel_rfl) (by kernel_rfl) (fun _ _ _ h => h) (Or.inl ⟨by rfl, ?_⟩) hHeld ?_
                          rotate_left
                          · intro wz hSw
                            go_simp
                            all_goals (with_reducible rfl)
                          try simp only [Act.put, List.setIfInBounds_toArray, List.set_cons_zero, List.set_cons_succ]
                          refine wpAnyH_take (i := 3) (oi := { dst := some 84, op := Op.indexAddr 30 (Operand.tmp 82) (Operand.tmp 83), type := 0, pos := "ref.go:70", after := #[{ on := 1, ground := Ground.data }, { on := 2, ground := Ground.data }], guard := none }) (v := ?_) rfl (by kernel_rfl) (by kernel_rfl) (by kernel_rfl) (fun _ _ _ h => h) (Or.inl ⟨by rfl, ?_⟩) hHeld ?_
                          rotate_left
                          · intro wz hSw
                            go_simp
                            all_goals (with_reducible rfl)
                          try simp only [Act.put, List.setIfInBounds_toArray, List.set_cons_zero, List.set_cons_succ]
                          refine wpAnyH_take (i := 4) (oi := { dst := some 85, op := Op.load 75 (Operand.tmp 84), type := 75, pos := "ref.go:70", after := #[{ on := 3, ground := Ground.data }], guard := none }) rfl (by kernel_rfl) (by kernel_rfl) (by kernel_rfl) (fun _ _ _ h => h) (yieldsIf_load_mid (by rfl) _ _ rfl eb (eo + j * 35) rfl (re) _ (fun wz h => hrg.out wz h) Tryz.underlying75 rfl (hie.out)) hHeld ?_
                          try simp only [Act.put, List.setIfInBounds_toArray, List.set_cons_zero, List.set_cons_succ]
                          refine wpAnyH_ready (rs := [5]) (by kernel_rfl) (by simp) ?_
                          refine AllReadyH.cons (o := { dst := some 86, op := Op.call { callee := Callee.value (Operand.func 94), args := #[Operand.tmp 85], argTypes := #[75] }, type := 4, pos := "ref.go:70", after := #[{ on := 4, ground := Ground.data }], guard := none }) rfl (fun K hK => ?_) AllReadyH.nil
                          rw [if_pos (by rfl)]
                          show Oper.wp _ _ _ _ K _
                          go_simp
                          go_at_call 94
                          refine (hen1.out W4 hHeld).mono ?_
                          rintro e W5 ⟨rfl, hb5⟩
                          refine hK.out _ _ (hHeld.trans (hb5.mono hHeld.size)) (fun hHeld2 => ?_)
                          clear hb5
                          clear hHeld
                          have hHeld := hHeld2
                          clear hHeld2
                          clear hK K
                          try simp only [Act.put, List.setIfInBounds_toArray, List.set_cons_zero, List.set_cons_succ]
                          refine wpAnyH_take (i := 6) (oi := { dst := some 87, op := Op.unOp UnOp.not 4 (Operand.tmp 86), type := 4, pos := "ref.go:70", after := #[{ on := 5, ground := Ground.data }], guard := none }) (v := ?_) rfl (by kernel_rfl) (by kernel_rfl) (by kernel_rfl) (fun _ _ _ h => h) (Or.inl ⟨by rfl, ?_⟩) hHeld ?_
                          rotate_left
                          · intro wz hSw
                            go_simp
                            all_goals (with_reducible rfl)
                          try simp only [Act.put, List.setIfInBounds_toArray, List.set_cons_zero, List.set_cons_succ]
                          refine wpAnyH_take (i := 7) (oi := { dst := some 88, op := Op.move (Operand.tmp 87), type := 4, pos := "ref.go:70", after := #[{ on := 6, ground := Ground.data }, { on := 5, ground := Ground.chain }], guard := none }) (v := ?_) rfl (by kernel_rfl) (by kernel_rfl) (by kernel_rfl) (fun _ _ _ h => h) (Or.inl ⟨by rfl, ?_⟩) hHeld ?_
                          rotate_left
                          · intro wz hSw
                            go_simp
                            all_goals (with_reducible rfl)
                          try simp only [Act.put, List.setIfInBounds_toArray, List.set_cons_zero, List.set_cons_succ]
                          refine wpAnyH_take (i := 8) (oi := { dst := some 89, op := Op.fieldAddr 121 (Operand.tmp 6) 1, type := 0, pos := "ref.go:70", after := #[{ on := 7, ground := Ground.guard }], guard := some (7, false) }) (v := ?_) rfl (by kernel_rfl) (by kernel_rfl) (by kernel_rfl) (fun _ _ _ h => h) (Or.inl ⟨by rfl, ?_⟩) hHeld ?_
                          rotate_left
                          · intro wz hSw
                            go_simp
                            all_goals (with_reducible rfl)
                          try simp only [Act.put, List.setIfInBounds_toArray, List.set_cons_zero, List.set_cons_succ]
                          refine wpAnyH_take (i := 9) (oi := { dst := some 90, op := Op.load 30 (Operand.tmp 89), type := 30, pos := "ref.go:70", after := #[{ on := 8, ground := Ground.data }, { on := 7, ground := Ground.guard }], guard := some (7, false) }) (v := ?_) rfl (by kernel_rfl) (by kernel_rfl) (by kernel_rfl) (fun _ _ _ h => h) (Or.inl ⟨by rfl, ?_⟩) hHeld ?_
                          rotate_left
                          · intro wz hSw
                            have q0 := hgc.out wz hSw
                            go_simp
                            all_goals (with_reducible rfl)
                          try simp only [Act.put, List.setIfInBounds_toArray, List.set_cons_zero, List.set_cons_succ]
                          refine wpAnyH_take (i := 10) (oi := { dst := some 91, op := Op.fieldAddr 121 (Operand.tmp 6) 1, type := 0, pos := "ref.go:70", after := #[{ on := 7, ground := Ground.guard }], guard := some (7, false) }) (v := ?_) rfl (by kernel_rfl) (by kernel_rfl) (by kernel_rfl) (fun _ _ _ h => h) (Or.inl ⟨by rfl, ?_⟩) hHeld ?_
                          rotate_left
                          · intro wz hSw
                            go_simp
                            all_goals (with_reducible rfl)
                          try simp only [Act.put, List.setIfInBounds_toArray, List.set_cons_zero, List.set_cons_succ]
                          refine wpAnyH_take (i := 11) (oi := { dst := some 92, op := Op.load 30 (Operand.tmp 91), type := 30, pos := "ref.go:70", after := #[{ on := 10, ground := Ground.data }, { on := 7, ground := Ground.guard }], guard := some (7, false) }) (v := ?_) rfl (by kernel_rfl) (by kernel_rfl) (by kernel_rfl) (fun _ _ _ h => h) (Or.inl ⟨by rfl, ?_⟩) hHeld ?_
                          rotate_left
                          · intro wz hSw
                            have q0 := hgc.out wz hSw
                            go_simp
                            all_goals (with_reducible rfl)
                          try simp only [Act.put, List.setIfInBounds_toArray, List.set_cons_zero, List.set_cons_succ]
                          refine wpAnyH_take (i := 12) (oi := { dst := some 93, op := Op.move (Operand.tmp 7), type := 3, pos := "ref.go:70", after := #[{ on := 7, ground := Ground.guard }], guard := some (7, false) }) (v := ?_) rfl (by kernel_rfl) (by kernel_rfl) (by kernel_rfl) (fun _ _ _ h => h) (Or.inl ⟨by rfl, ?_⟩) hHeld ?_
                          rotate_left
                          · intro wz hSw
                            go_simp
                            all_goals (with_reducible rfl)
                          try simp only [Act.put, List.setIfInBounds_toArray, List.set_cons_zero, List.set_cons_succ]
                          refine wpAnyH_take (i := 13) (oi := { dst := some 94, op := Op.indexAddr 30 (Operand.tmp 92) (Operand.tmp 93), type := 0, pos := "ref.go:70", after := #[{ on := 11, ground := Ground.data }, { on := 12, ground := Ground.data }, { on := 7, ground := Ground.guard }], guard := some (7, false) }) (v := ?_) rfl (by kernel_rfl) (by kernel_rfl) (by kernel_rfl) (fun _ _ _ h => h) (Or.inl ⟨by rfl, ?_⟩) hHeld ?_
                          rotate_left
                          · intro wz hSw
                            go_simp
                            all_goals (with_reducible rfl)
                          try simp only [Act.put, List.setIfInBounds_toArray, List.set_cons_zero, List.set_cons_succ]
                          refine wpAnyH_take (i := 14) (oi := { dst := some 95, op := Op.fieldAddr 75 (Operand.tmp 94) 1, type := 0, pos := "ref.go:70", after := #[{ on := 13, ground := Ground.data }, { on := 7, ground := Ground.guard }], guard := some (7, false) }) (v := ?_) rfl (by kernel_rfl) (by kernel_rfl) (by kernel_rfl) (fun _ _ _ h => h) (Or.inl ⟨by rfl, ?_⟩) hHeld ?_
                          rotate_left
                          · intro wz hSw
                            go_simp
                            all_goals (with_reducible rfl)
                          try simp only [Act.put, List.setIfInBounds_toArray, List.set_cons_zero, List.set_cons_succ]
                          refine wpAnyH_take (i := 15) (oi := { dst := some 96, op := Op.load 32 (Operand.tmp 95), type := 32, pos := "ref.go:70", after := #[{ on := 14, ground := Ground.data }, { on := 7, ground := Ground.guard }], guard := some (7, false) }) rfl (by kernel_rfl) (by kernel_rfl) (by kernel_rfl) (fun _ _ _ h => h) (yieldsIf_load_mid (by rfl) _ _ rfl eb (eo + j * 35 + 1) rfl (de) _ (fun wz h => hrd.out wz h) Tryz.underlying32 rfl (hdi.out)) hHeld ?_
                          try simp only [Act.put, List.setIfInBounds_toArray, List.set_cons_zero, List.set_cons_succ]
                          refine wpAnyH_take (i := 17) (oi := { dst := some 98, op := Op.move (Operand.tmp 7), type := 3, pos := "ref.go:70", after := #[{ on := 7, ground := Ground.guard }], guard := some (7, false) }) (v := ?_) rfl (by kernel_rfl) (by kernel_rfl) (by kernel_rfl) (fun _ _ _ h => h) (Or.inl ⟨by rfl, ?_⟩) hHeld ?_
                          rotate_left
                          · intro wz hSw
                            go_simp
                            all_goals (with_reducible rfl)
                          try simp only [Act.put, List.setIfInBounds_toArray, List.set_cons_zero, List.set_cons_succ]
                          refine wpAnyH_take (i := 18) (oi := { dst := some 99, op := Op.binOp BinOp.add 3 (Operand.tmp 98) (Operand.const (Value.int IntKind.i64 1)) 3, type := 3, pos := "ref.go:70", after := #[{ on := 17, ground := Ground.data }, { on := 7, ground := Ground.guard }], guard := some (7, false) }) (v := ?_) rfl (by kernel_rfl) (by kernel_rfl) (by kernel_rfl) (fun _ _ _ h => h) (Or.inl ⟨by rfl, ?_⟩) hHeld ?_
                          rotate_left
                          · intro wz hSw
                            go_simp
                            all_goals (with_reducible rfl)
                          try simp only [Act.put, List.setIfInBounds_toArray, List.set_cons_zero, List.set_cons_succ]
                          refine wpAnyH_ready (rs := [16]) (by kernel_rfl) (by simp) ?_
                          refine AllReadyH.cons (o := { dst := some 97, op := Op.call { callee := Callee.value (Operand.func 95), args := #[Operand.tmp 90, Operand.tmp 96], argTypes := #[30, 32] }, type := 3, pos := "ref.go:70", after := #[{ on := 9, ground := Ground.data }, { on := 15, ground := Ground.data }, { on := 7, ground := Ground.chain }, { on := 7, ground := Ground.guard }], guard := some (7, false) }) rfl (fun K hK => ?_) AllReadyH.nil
                          rw [if_pos (by rfl)]
                          show Oper.wp _ _ _ _ K _
                          go_simp
                          go_at_call 95
                          refine (hnum.out W5 hHeld).mono ?_
                          rintro e W6 ⟨rfl, hb6⟩
                          refine hK.out _ _ (hHeld.trans (hb6.mono hHeld.size)) (fun hHeld2 => ?_)
                          clear hb6
                          clear hHeld
                          have hHeld := hHeld2
                          clear hHeld2
                          clear hK K
                          try simp only [Act.put, List.setIfInBounds_toArray, List.set_cons_zero, List.set_cons_succ]
                          refine wpAnyH_take (i := 19) (oi := { dst := some 100, op := Op.binOp BinOp.neq 3 (Operand.tmp 97) (Operand.tmp 99) 3, type := 4, pos := "ref.go:70", after := #[{ on := 16, ground := Ground.data }, { on := 18, ground := Ground.data }, { on := 7, ground := Ground.guard }], guard := some (7, false) }) (v := ?_) rfl (by kernel_rfl) (by kernel_rfl) (by kernel_rfl) (fun _ _ _ h => h) (Or.inl ⟨by rfl, ?_⟩) hHeld ?_
                          rotate_left
                          · intro wz hSw
                            go_simp
                            all_goals (with_reducible rfl)
                          try simp only [Act.put, List.setIfInBounds_toArray, List.set_cons_zero, List.set_cons_succ]
                          refine wpAnyH_take (i := 20) (oi := { dst := some 101, op := Op.pick (Operand.tmp 88) (Operand.const (Value.bool true)) (Operand.tmp 100), type := 4, pos := "ref.go:70", after := #[{ on := 7, ground := Ground.data }, { on := 19, ground := Ground.data }], guard := none }) (v := ?_) rfl (by kernel_rfl) (by kernel_rfl) (by kernel_rfl) (fun _ _ _ h => h) (Or.inl ⟨by rfl, ?_⟩) hHeld ?_
                          rotate_left
                          · intro wz hSw
                            go_simp
                            all_goals (with_reducible rfl)
                          try simp only [Act.put, List.setIfInBounds_toArray, List.set_cons_zero, List.set_cons_succ]
                          refine wpAnyH_done (by kernel_rfl) ?_ _
                          have hend := Lib.hid (hbad.out W6 hHeld)
                          clear hHeld
                          go_wp2_with fail
                          exact hend.out
                    · obtain rfl : j = en := by omega
                      have hfe : Sto.fineGo [] x.es = true := by rw [hf.out, List.drop_eq_nil_of_le (by omega)]; rfl
                      have hl3 := hgood.out hfe
                      have hb9 : Hid (Below W0.heap.size W0 wr) := hb3.out.trans (hbr.out.mono hb3.out.size)
                      clear hinner hgood hfe hf
                      go_wp2_with fail
                      go_roundw
                      case rel => exact ⟨k + 1, x.folder, by omega, by go_num, hb9, hnp, hl3⟩
                      case measure => simp [intOf]; omega
            · rcases hp' with ⟨h, _⟩ | ⟨jO, y, hkj, hy, hpy⟩
              · exact absurd h hk0
              subst hpy
              obtain ⟨b2, off2, _, _, _, hab, _, _, _, _, y0, _⟩ := (H'.out.below hbW.out).ls.cells hy
              cases hab
              have kz : decide ((0 : Int) < (k : Int)) = true := decide_eq_true (by omega)
              have kz2 : decide (0 < k) = true := decide_eq_true (by omega)
              have kj : (k : Int) - 1 = (jO : Int) := by omega
              have hj0 : (0 : Int) ≤ (jO : Int) := by omega
              have hjw : IntKind.i64.wrap (jO : Int) = (jO : Int) := IntWalk.i64_in _ (by omega)
              have hj2 : (jO : Int) < (n : Int) := by omega
              clear hy hk0 hkj
              by_cases hle : x.folder ≤ y.folder
              · have g6 : decide (x.folder ≤ y.folder) = true := decide_eq_true hle
                have hbadq := Lib.hid (hbadq0.out (.inr (.inl (by omega))))
                clear hbadq0 hgood0 hinner0 hle
                go_wp2_with fail
                rw [hg.out, hWW.out]
                go_quiet (fail)
                go_wp2_with fail
                exact hbadq.out _
              · have g6 : decide (x.folder ≤ y.folder) = false := decide_eq_false hle
                have hgood1 := Lib.hid (hgood0.out (by omega))
                clear hgood0
                have hgood0 := hgood1
                clear hgood1 hle
                by_cases he0 : en < 1
                · have g3 : decide ((en : Int) < 1) = true := decide_eq_true (by omega)
                  have hbadq := Lib.hid (hbadq0.out (.inr (.inr (by unfold Sto.fineB; rw [decide_eq_false (by omega : ¬ (0 < x.es.length ∧ x.es.length ≤ 65536)), Bool.and_false]))))
                  clear hbadq0 hgood0 hinner0
                  go_wp2_with fail
                  rw [hg.out, hWW.out]
                  go_quiet (fail)
                  go_wp2_with fail
                  exact hbadq.out _
                · have g3 : decide ((en : Int) < 1) = false := decide_eq_false (by omega)
                  by_cases he1 : 65536 < en
                  · have g4 : decide ((65536 : Int) < (en : Int)) = true := decide_eq_true (by omega)
                    have hbadq := Lib.hid (hbadq0.out (.inr (.inr (by unfold Sto.fineB; rw [decide_eq_false (by omega : ¬ (0 < x.es.length ∧ x.es.length ≤ 65536)), Bool.and_false]))))
                    clear hbadq0 hgood0 hinner0
                    go_wp2_with fail
                    rw [hg.out, hWW.out]
                    go_quiet (fail)
                    go_wp2_with fail
                    exact hbadq.out _
                  · have g4 : decide ((65536 : Int) < (en : Int)) = false := decide_eq_false (by omega)
                    have hgood := Lib.hid (hgood0.out (by omega))
                    have hinner := Lib.hid (hinner0.out)
                    clear hbadq0 hgood0 hinner0 he0 he1
                    have hW3 : Hid (∀ m, Below W2.heap.size W2 (W2.drewN m)) := fun m => below_drewN _ _ _
                    have hgl := hG.out.lt
                    go_wp2_with fail
                    rw [hg.out, hWW.out]
                    go_quiet (fail)
                    have hgc : Hid (∀ wz, Below (W2.drewN nq).heap.size (W2.drewN nq) wz → wz.cell? ⟨g, 1, none⟩ = some (.slice ea en ec)) := fun wz h => ((hG.out.drewN nq).below h (hG.out.drewN nq).lt).at_ (i := 1) rfl
                    have hE3 : Hid (ES K (W2.drewN nq) ea en ec x.es) := hE.out.below (hW3.out nq)
                    have hb3 : Hid (Below W0.heap.size W0 (W2.drewN nq)) := hbW.out.trans ((hW3.out nq).mono hbW.out.size)
                    clear hG hE hW3 hbW g0 g1
                    generalize hWd : W2.drewN nq = W3 at *
                    clear hWd
                    go_wp2_with fail
                    obtain ⟨wO, hwO⟩ : ∃ W, W = wr := ⟨_, rfl⟩
                    go_loopw [7] (fun i wr => ∃ j : Nat, j ≤ en ∧ i = .int .i64 (j : Int) ∧ Hid (Below W3.heap.size W3 wr) ∧ Hid (Sto.fineGo [] x.es = Sto.fineGo ((x.es.take j).map (·.dig)) (x.es.drop j))) (fun i _ => en - (intOf i).toNat)
                    case atStart => exact ⟨0, Nat.zero_le _, rfl, Below.refl _ _, rfl⟩
                    case round =>
                      obtain ⟨j, hj, rfl, hbr, hf⟩ := hrel
                      have s1 := hgc.out wr hbr.out
                      by_cases hlj : j < en
                      · obtain ⟨e, he⟩ : ∃ e, x.es[j]? = some e := ⟨_, List.getElem?_eq_getElem (by omega)⟩
                        obtain ⟨eb, eo, re, rfl, hebl, _, ⟨hoe, da, dn, dc, ere, hbk⟩, hrel, hrge⟩ := hE3.out.rs.get he
                        have hrge1 := EntR1 (ere ▸ hrge) hoe.dig
                        have hrg : Hid (∀ wz, Below W3.heap.size W3 wz → wz.rangeAt eb (eo + j * 35) re) := fun wz h q v hv => (h.cell (p := ⟨eb, _, none⟩) hebl).trans (hrge q v hv)
                        have hrd : Hid (∀ wz, Below W3.heap.size W3 wz → wz.rangeAt eb (eo + j * 35 + 1) (bv e.dig)) := fun wz h q v hv => (h.cell (p := ⟨eb, _, none⟩) hebl).trans (hrge1 q v hv)
                        have hie : Hid ((Tryz.prog.info? 75).map (·.size) = some re.length) := by show _ = _; rw [hrel]; exact sizeE
                        have hdi : Hid ((Tryz.prog.info? 32).map (·.size) = some (bv e.dig).length) := by show _ = _; rw [bv_length, hoe.dig]; exact size35
                        have hbs := Lib.hid hbk.bs
                        have hen1 := Lib.hid (fun W (hW : Below W3.heap.size W3 W) => r30entry_any e hoe da dn dc re ere W (hbs.out.below hW))
                        have hdg : Dig e.dig := ⟨hoe.dig, hoe.lt⟩
                        have hnum := Lib.hid (fun W (hW : Below W3.heap.size W3 W) => r30number_any K _ en ec x.es e.dig hdg W (hE3.out.below hW))
                        have j0 : (0 : Int) ≤ (j : Int) := by omega
                        have j1 : (j : Int) < (en : Int) := by omega
                        have jw : IntKind.i64.wrap ((j : Int) + 1) = (j : Int) + 1 := IntWalk.i64_in _ (by omega)
                        obtain ⟨de, hde⟩ : ∃ d, Hid (bv e.dig = d) := ⟨_, rfl⟩
                        obtain ⟨nn, hnn⟩ : ∃ m, Hid (Sto.numE e.dig x.es = m) := ⟨_, rfl⟩
                        rw [hde.out] at hrd hdi hnum
                        rw [hnn.out] at hnum
                        obtain ⟨q, hq⟩ : ∃ q, Hid (Sto.entB e = q) := ⟨_, rfl⟩
                        rw [hq.out] at hen1
                        have he' := Lib.hid he
                        clear hrge hrge1 hbk hrel hoe ere hdg he
                        have hbad : Hid (Sto.fineGo ((x.es.take j).map (·.dig)) (x.es.drop j) = false → ∀ W, Below W3.heap.size W3 W → X (.returned (.int .i64 300)) W) := fun h W hW => hinner.out (by unfold Sto.fineB; rw [hf.out, h]; rfl) W (hb3.out.trans (hW.mono hb3.out.size))
                        cases q with
                        | false =>
                          have hbad2 := Lib.hid (hbad.out (Sto.fineGo_bad he'.out (.inl hq.out)))
                          clear hbad
                          have hbad := hbad2
                          clear hbad2 hf hq
                          go_wp2_with fail
                          refine wp_region_held_drew (S := fun wz => Below W3.heap.size W3 wz) (by kernel_rfl) (hbr.out.drew) (fun hHeld => ?_)
                          generalize wr.drew = W4 at *
                          refine wpAnyH_take (i := 0) (oi := { dst := some 81, op := Op.fieldAddr 121 (Operand.tmp 6) 1, type := 0, pos := "ref.go:70", after := #[], guard := none }) (v := ?_) rfl (by kernel_rfl) (by kernel_rfl) (by kernel_rfl) (fun _ _ _ h => h) (Or.inl ⟨by rfl, ?_⟩) hHeld ?_
                          rotate_left
                          · intro wz hSw
                            go_simp
                            all_goals (with_reducible rfl)
                          try simp only [Act.put, List.setIfInBounds_toArray, List.set_cons_zero, List.set_cons_succ]
                          refine wpAnyH_take (i := 1) (oi := { dst := some 82, op := Op.load 30 (Operand.tmp 81), type := 30, pos := "ref.go:70", after := #[{ on := 0, ground := Ground.data }], guard := none }) (v := ?_) rfl (by kernel_rfl) (by kernel_rfl) (by kernel_rfl) (fun _ _ _ h => h) (Or.inl ⟨by rfl, ?_⟩) hHeld ?_
                          rotate_left
                          · intro wz hSw
                            have q0 := hgc.out wz hSw
                            go_simp
                            all_goals (with_reducible rfl)
                          try simp only [Act.put, List.setIfInBounds_toArray, List.set_cons_zero, List.set_cons_succ]
                          refine wpAnyH_take (i := 2) (oi := { dst := some 83, op := Op.move (Operand.tmp 7), type := 3, pos := "ref.go:70", after := #[], guard := none }) (v := ?_) rfl (by kernel_rfl) (by kernel_rfl) (by kernel_rfl) (fun _ _ _ h => h) (Or.inl ⟨by rfl, ?_⟩) hHeld ?_
                          rotate_left
                          · intro wz hSw
                            go_simp
                            all_goals (with_reducible rfl)
                          try simp only [Act.put, List.setIfInBounds_toArray, List.set_cons_zero, List.set_cons_succ]
                          refine wpAnyH_take (i := 3) (oi := { dst := some 84, op := Op.indexAddr 30 (Operand.tmp 82) (Operand.tmp 83), type := 0, pos := "ref.go:70", after := #[{ on := 1, ground := Ground.data }, { on := 2, ground := Ground.data }], guard := none }) (v := ?_) rfl (by kernel_rfl) (by kernel_rfl) (by kernel_rfl) (fun _ _ _ h => h) (Or.inl ⟨by rfl, ?_⟩) hHeld ?_
                          rotate_left
                          · intro wz hSw
                            go_simp
                            all_goals (with_reducible rfl)
                          try simp only [Act.put, List.setIfInBounds_toArray, List.set_cons_zero, List.set_cons_succ]
                          refine wpAnyH_take (i := 4) (oi := { dst := some 85, op := Op.load 75 (Operand.tmp 84), type := 75, pos := "ref.go:70", after := #[{ on := 3, ground := Ground.data }], guard := none }) rfl (by kernel_rfl) (by kernel_rfl) (by kernel_rfl) (fun _ _ _ h => h) (yieldsIf_load_mid (by rfl) _ _ rfl eb (eo + j * 35) rfl (re) _ (fun wz h => hrg.out wz h) Tryz.underlying75 rfl (hie.out)) hHeld ?_
                          try simp only [Act.put, List.setIfInBounds_toArray, List.set_cons_zero, List.set_cons_succ]
                          refine wpAnyH_ready (rs := [5]) (by kernel_rfl) (by simp) ?_
                          refine AllReadyH.cons (o := { dst := some 86, op := Op.call { callee := Callee.value (Operand.func 94), args := #[Operand.tmp 85], argTypes := #[75] }, type := 4, pos := "ref.go:70", after := #[{ on := 4, ground := Ground.data }], guard := none }) rfl (fun K hK => ?_) AllReadyH.nil
                          rw [if_pos (by rfl)]
                          show Oper.wp _ _ _ _ K _
                          go_simp
                          go_at_call 94
                          refine (hen1.out W4 hHeld).mono ?_
                          rintro e W5 ⟨rfl, hb5⟩
                          refine hK.out _ _ (hHeld.trans (hb5.mono hHeld.size)) (fun hHeld2 => ?_)
                          clear hb5
                          clear hHeld
                          have hHeld := hHeld2
                          clear hHeld2
                          clear hK K
                          try simp only [Act.put, List.setIfInBounds_toArray, List.set_cons_zero, List.set_cons_succ]
                          refine wpAnyH_take (i := 6) (oi := { dst := some 87, op := Op.unOp UnOp.not 4 (Operand.tmp 86), type := 4, pos := "ref.go:70", after := #[{ on := 5, ground := Ground.data }], guard := none }) (v := ?_) rfl (by kernel_rfl) (by kernel_rfl) (by kernel_rfl) (fun _ _ _ h => h) (Or.inl ⟨by rfl, ?_⟩) hHeld ?_
                          rotate_left
                          · intro wz hSw
                            go_simp
                            all_goals (with_reducible rfl)
                          try simp only [Act.put, List.setIfInBounds_toArray, List.set_cons_zero, List.set_cons_succ]
                          refine wpAnyH_take (i := 7) (oi := { dst := some 88, op := Op.move (Operand.tmp 87), type := 4, pos := "ref.go:70", after := #[{ on := 6, ground := Ground.data }, { on := 5, ground := Ground.chain }], guard := none }) (v := ?_) rfl (by kernel_rfl) (by kernel_rfl) (by kernel_rfl) (fun _ _ _ h => h) (Or.inl ⟨by rfl, ?_⟩) hHeld ?_
                          rotate_left
                          · intro wz hSw
                            go_simp
                            all_goals (with_reducible rfl)
                          try simp only [Act.put, List.setIfInBounds_toArray, List.set_cons_zero, List.set_cons_succ]
                          refine wpAnyH_take (i := 8) (oi := { dst := some 89, op := Op.fieldAddr 121 (Operand.tmp 6) 1, type := 0, pos := "ref.go:70", after := #[{ on := 7, ground := Ground.guard }], guard := some (7, false) }) (v := undef) rfl (by kernel_rfl) (by kernel_rfl) (by kernel_rfl) (fun _ _ _ h => h) (Or.inr ⟨by rfl, rfl⟩) hHeld ?_
                          try simp only [Act.put, List.setIfInBounds_toArray, List.set_cons_zero, List.set_cons_succ]
                          refine wpAnyH_take (i := 9) (oi := { dst := some 90, op := Op.load 30 (Operand.tmp 89), type := 30, pos := "ref.go:70", after := #[{ on := 8, ground := Ground.data }, { on := 7, ground := Ground.guard }], guard := some (7, false) }) (v := undef) rfl (by kernel_rfl) (by kernel_rfl) (by kernel_rfl) (fun _ _ _ h => h) (Or.inr ⟨by rfl, rfl⟩) hHeld ?_
                          try simp only [Act.put, List.setIfInBounds_toArray, List.set_cons_zero, List.set_cons_succ]
                          refine wpAnyH_take (i := 10) (oi := { dst := some 91, op := Op.fieldAddr 121 (Operand.tmp 6) 1, type := 0, pos := "ref.go:70", after := #[{ on := 7, ground := Ground.guard }], guard := some (7, false) }) (v := undef) rfl (by kernel_rfl) (by kernel_rfl) (by kernel_rfl) (fun _ _ _ h => h) (Or.inr ⟨by rfl, rfl⟩) hHeld ?_
                          try simp only [Act.put, List.setIfInBounds_toArray, List.set_cons_zero, List.set_cons_succ]
                          refine wpAnyH_take (i := 11) (oi := { dst := some 92, op := Op.load 30 (Operand.tmp 91), type := 30, pos := "ref.go:70", after := #[{ on := 10, ground := Ground.data }, { on := 7, ground := Ground.guard }], guard := some (7, false) }) (v := undef) rfl (by kernel_rfl) (by kernel_rfl) (by kernel_rfl) (fun _ _ _ h => h) (Or.inr ⟨by rfl, rfl⟩) hHeld ?_
                          try simp only [Act.put, List.setIfInBounds_toArray, List.set_cons_zero, List.set_cons_succ]
                          refine wpAnyH_take (i := 12) (oi := { dst := some 93, op := Op.move (Operand.tmp 7), type := 3, pos := "ref.go:70", after := #[{ on := 7, ground := Ground.guard }], guard := some (7, false) }) (v := undef) rfl (by kernel_rfl) (by kernel_rfl) (by kernel_rfl) (fun _ _ _ h => h) (Or.inr ⟨by rfl, rfl⟩) hHeld ?_
                          try simp only [Act.put, List.setIfInBounds_toArray, List.set_cons_zero, List.set_cons_succ]
                          refine wpAnyH_take (i := 13) (oi := { dst := some 94, op := Op.indexAddr 30 (Operand.tmp 92) (Operand.tmp 93), type := 0, pos := "ref.go:70", after := #[{ on := 11, ground := Ground.data }, { on := 12, ground := Ground.data }, { on := 7, ground := Ground.guard }], guard := some (7, false) }) (v := undef) rfl (by kernel_rfl) (by kernel_rfl) (by kernel_rfl) (fun _ _ _ h => h) (Or.inr ⟨by rfl, rfl⟩) hHeld ?_
                          try simp only [Act.put, List.setIfInBounds_toArray, List.set_cons_zero, List.set_cons_succ]
                          refine wpAnyH_take (i := 14) (oi := { dst := some 95, op := Op.fieldAddr 75 (Operand.tmp 94) 1, type := 0, pos := "ref.go:70", after := #[{ on := 13, ground := Ground.data }, { on := 7, ground := Ground.guard }], guard := some (7, false) }) (v := undef) rfl (by kernel_rfl) (by kernel_rfl) (by kernel_rfl) (fun _ _ _ h => h) (Or.inr ⟨by rfl, rfl⟩) hHeld ?_
                          try simp only [Act.put, List.setIfInBounds_toArray, List.set_cons_zero, List.set_cons_succ]
                          refine wpAnyH_take (i := 15) (oi := { dst := some 96, op := Op.load 32 (Operand.tmp 95), type := 32, pos := "ref.go:70", after := #[{ on := 14, ground := Ground.data }, { on := 7, ground := Ground.guard }], guard := some (7, false) }) (v := undef) rfl (by kernel_rfl) (by kernel_rfl) (by kernel_rfl) (fun _ _ _ h => h) (Or.inr ⟨by rfl, rfl⟩) hHeld ?_
                          try simp only [Act.put, List.setIfInBounds_toArray, List.set_cons_zero, List.set_cons_succ]
                          refine wpAnyH_take (i := 17) (oi := { dst := some 98, op := Op.move (Operand.tmp 7), type := 3, pos := "ref.go:70", after := #[{ on := 7, ground := Ground.guard }], guard := some (7, false) }) (v := undef) rfl (by kernel_rfl) (by kernel_rfl) (by kernel_rfl) (fun _ _ _ h => h) (Or.inr ⟨by rfl, rfl⟩) hHeld ?_
                          try simp only [Act.put, List.setIfInBounds_toArray, List.set_cons_zero, List.set_cons_succ]
                          refine wpAnyH_take (i := 18) (oi := { dst := some 99, op := Op.binOp BinOp.add 3 (Operand.tmp 98) (Operand.const (Value.int IntKind.i64 1)) 3, type := 3, pos := "ref.go:70", after := #[{ on := 17, ground := Ground.data }, { on := 7, ground := Ground.guard }], guard := some (7, false) }) (v := undef) rfl (by kernel_rfl) (by kernel_rfl) (by kernel_rfl) (fun _ _ _ h => h) (Or.inr ⟨by rfl, rfl⟩) hHeld ?_
                          try simp only [Act.put, List.setIfInBounds_toArray, List.set_cons_zero, List.set_cons_succ]
                          refine wpAnyH_ready (rs := [16]) (by kernel_rfl) (by simp) ?_
                          refine AllReadyH.cons (o := { dst := some 97, op := Op.call { callee := Callee.value (Operand.func 95), args := #[Operand.tmp 90, Operand.tmp 96], argTypes := #[30, 32] }, type := 3, pos := "ref.go:70", after := #[{ on := 9, ground := Ground.data }, { on := 15, ground := Ground.data }, { on := 7, ground := Ground.chain }, { on := 7, ground := Ground.guard }], guard := some (7, false) }) rfl (fun K hK => ?_) AllReadyH.nil
                          rw [if_neg (Bool.eq_false_iff.1 (by rfl))]
                          refine hK.out _ _ hHeld (fun hHeld => ?_)
                          clear hK K
                          try simp only [Act.put, List.setIfInBounds_toArray, List.set_cons_zero, List.set_cons_succ]
                          refine wpAnyH_take (i := 19) (oi := { dst := some 100, op := Op.binOp BinOp.neq 3 (Operand.tmp 97) (Operand.tmp 99) 3, type := 4, pos := "ref.go:70", after := #[{ on := 16, ground := Ground.data }, { on := 18, ground := Ground.data }, { on := 7, ground := Ground.guard }], guard := some (7, false) }) (v := undef) rfl (by kernel_rfl) (by kernel_rfl) (by kernel_rfl) (fun _ _ _ h => h) (Or.inr ⟨by rfl, rfl⟩) hHeld ?_
                          try simp only [Act.put, List.setIfInBounds_toArray, List.set_cons_zero, List.set_cons_succ]
                          refine wpAnyH_take (i := 20) (oi := { dst := some 101, op := Op.pick (Operand.tmp 88) (Operand.const (Value.bool true)) (Operand.tmp 100), type := 4, pos := "ref.go:70", after := #[{ on := 7, ground := Ground.data }, { on := 19, ground := Ground.data }], guard := none }) (v := ?_) rfl (by kernel_rfl) (by kernel_rfl) (by kernel_rfl) (fun _ _ _ h => h) (Or.inl ⟨by rfl, ?_⟩) hHeld ?_
                          rotate_left
                          · intro wz hSw
                            go_simp
                            all_goals (with_reducible rfl)
                          try simp only [Act.put, List.setIfInBounds_toArray, List.set_cons_zero, List.set_cons_succ]
                          refine wpAnyH_done (by kernel_rfl) ?_ _
                          have hend := Lib.hid (hbad.out W5 hHeld)
                          clear hHeld
                          go_wp2_with fail
                          exact hend.out
                        | true =>
                          by_cases hne : nn = j + 1
                          · subst hne
                            have hgo2 : Hid (Sto.fineGo [] x.es = Sto.fineGo ((x.es.take (j + 1)).map (·.dig)) (x.es.drop (j + 1))) := by
                              show _ = _
                              rw [hf.out, Sto.fineGo_drop he'.out hq.out hnn.out]
                            have hjj : (((j + 1 : Nat)) : Int) = (j : Int) + 1 := by omega
                            rw [hjj] at hnum
                            clear hbad hf hq hnn he'
                            go_wp2_with fail
                            refine wp_region_held_drew (S := fun wz => Below W3.heap.size W3 wz) (by kernel_rfl) (hbr.out.drew) (fun hHeld => ?_)
                            generalize wr.drew = W4 at *
                            refine wpAnyH_take (i := 0) (oi := { dst := some 81, op := Op.fieldAddr 121 (Operand.tmp 6) 1, type := 0, pos := "ref.go:70", after := #[], guard := none }) (v := ?_) rfl (by kernel_rfl) (by kernel_rfl) (by kernel_rfl) (fun _ _ _ h => h) (Or.inl ⟨by rfl, ?_⟩) hHeld ?_
                            rotate_left
                            · intro wz hSw
                              go_simp
                              all_goals (with_reducible rfl)
                            try simp only [Act.put, List.setIfInBounds_toArray, List.set_cons_zero, List.set_cons_succ]
                            refine wpAnyH_take (i := 1) (oi := { dst := some 82, op := Op.load 30 (Operand.tmp 81), type := 30, pos := "ref.go:70", after := #[{ on := 0, ground := Ground.data }], guard := none }) (v := ?_) rfl (by kernel_rfl) (by kernel_rfl) (by kernel_rfl) (fun _ _ _ h => h) (Or.inl ⟨by rfl, ?_⟩) hHeld ?_
                            rotate_left
                            · intro wz hSw
                              have q0 := hgc.out wz hSw
                              go_simp
                              all_goals (with_reducible rfl)
                            try simp only [Act.put, List.setIfInBounds_toArray, List.set_cons_zero, List.set_cons_succ]
                            refine wpAnyH_take (i := 2) (oi := { dst := some 83, op := Op.move (Operand.tmp 7), type := 3, pos := "ref.go:70", after := #[], guard := none }) (v := ?_) rfl (by kernel_rfl) (by kernel_rfl) (by kernel_rfl) (fun _ _ _ h => h) (Or.inl ⟨by rfl, ?_⟩) hHeld ?_
                            rotate_left
                            · intro wz hSw
                              go_simp
                              all_goals (with_reducible rfl)
                            try simp only [Act.put, List.setIfInBounds_toArray, List.set_cons_zero, List.set_cons_succ]
                            refine wpAnyH_take (i := 3) (oi := { dst := some 84, op := Op.indexAddr 30 (Operand.tmp 82) (Operand.tmp 83), type := 0, pos := "ref.go:70", after := #[{ on := 1, ground := Ground.data }, { on := 2, ground := Ground.data }], guard := none }) (v := ?_) rfl (by kernel_rfl) (by kernel_rfl) (by kernel_rfl) (fun _ _ _ h => h) (Or.inl ⟨by rfl, ?_⟩) hHeld ?_
                            rotate_left
                            · intro wz hSw
                              go_simp
                              all_goals (with_reducible rfl)
                            try simp only [Act.put, List.setIfInBounds_toArray, List.set_cons_zero, List.set_cons_succ]
                            refine wpAnyH_take (i := 4) (oi := { dst := some 85, op := Op.load 75 (Operand.tmp 84), type := 75, pos := "ref.go:70", after := #[{ on := 3, ground := Ground.data }], guard := none }) rfl (by kernel_rfl) (by kernel_rfl) (by kernel_rfl) (fun _ _ _ h => h) (yieldsIf_load_mid (by rfl) _ _ rfl eb (eo + j * 35) rfl (re) _ (fun wz h => hrg.out wz h) Tryz.underlying75 rfl (hie.out)) hHeld ?_
                            try simp only [Act.put, List.setIfInBounds_toArray, List.set_cons_zero, List.set_cons_succ]
                            refine wpAnyH_ready (rs := [5]) (by kernel_rfl) (by simp) ?_
                            refine AllReadyH.cons (o := { dst := some 86, op := Op.call { callee := Callee.value (Operand.func 94), args := #[Operand.tmp 85], argTypes := #[75] }, type := 4, pos := "ref.go:70", after := #[{ on := 4, ground := Ground.data }], guard := none }) rfl (fun K hK => ?_) AllReadyH.nil
                            rw [if_pos (by rfl)]
                            show Oper.wp _ _ _ _ K _
                            go_simp
                            go_at_call 94
                            refine (hen1.out W4 hHeld).mono ?_
                            rintro e W5 ⟨rfl, hb5⟩
                            refine hK.out _ _ (hHeld.trans (hb5.mono hHeld.size)) (fun hHeld2 => ?_)
                            clear hb5
                            clear hHeld
                            have hHeld := hHeld2
                            clear hHeld2
                            clear hK K
                            try simp only [Act.put, List.setIfInBounds_toArray, List.set_cons_zero, List.set_cons_succ]
                            refine wpAnyH_take (i := 6) (oi := { dst := some 87, op := Op.unOp UnOp.not 4 (Operand.tmp 86), type := 4, pos := "ref.go:70", after := #[{ on := 5, ground := Ground.data }], guard := none }) (v := ?_) rfl (by kernel_rfl) (by kernel_rfl) (by kernel_rfl) (fun _ _ _ h => h) (Or.inl ⟨by rfl, ?_⟩) hHeld ?_
                            rotate_left
                            · intro wz hSw
                              go_simp
                              all_goals (with_reducible rfl)
                            try simp only [Act.put, List.setIfInBounds_toArray, List.set_cons_zero, List.set_cons_succ]
                            refine wpAnyH_take (i := 7) (oi := { dst := some 88, op := Op.move (Operand.tmp 87), type := 4, pos := "ref.go:70", after := #[{ on := 6, ground := Ground.data }, { on := 5, ground := Ground.chain }], guard := none }) (v := ?_) rfl (by kernel_rfl) (by kernel_rfl) (by kernel_rfl) (fun _ _ _ h => h) (Or.inl ⟨by rfl, ?_⟩) hHeld ?_
                            rotate_left
                            · intro wz hSw
                              go_simp
                              all_goals (with_reducible rfl)
                            try simp only [Act.put, List.setIfInBounds_toArray, List.set_cons_zero, List.set_cons_succ]
                            refine wpAnyH_take (i := 8) (oi := { dst := some 89, op := Op.fieldAddr 121 (Operand.tmp 6) 1, type := 0, pos := "ref.go:70", after := #[{ on := 7, ground := Ground.guard }], guard := some (7, false) }) (v := ?_) rfl (by kernel_rfl) (by kernel_rfl) (by kernel_rfl) (fun _ _ _ h => h) (Or.inl ⟨by rfl, ?_⟩) hHeld ?_
                            rotate_left
                            · intro wz hSw
                              go_simp
                              all_goals (with_reducible rfl)
                            try simp only [Act.put, List.setIfInBounds_toArray, List.set_cons_zero, List.set_cons_succ]
                            refine wpAnyH_take (i := 9) (oi := { dst := some 90, op := Op.load 30 (Operand.tmp 89), type := 30, pos := "ref.go:70", after := #[{ on := 8, ground := Ground.data }, { on := 7, ground := Ground.guard }], guard := some (7, false) }) (v := ?_) rfl (by kernel_rfl) (by kernel_rfl) (by kernel_rfl) (fun _ _ _ h => h) (Or.inl ⟨by rfl, ?_⟩) hHeld ?_
                            rotate_left
                            · intro wz hSw
                              have q0 := hgc.out wz hSw
                              go_simp
                              all_goals (with_reducible rfl)
                            try simp only [Act.put, List.setIfInBounds_toArray, List.set_cons_zero, List.set_cons_succ]
                            refine wpAnyH_take (i := 10) (oi := { dst := some 91, op := Op.fieldAddr 121 (Operand.tmp 6) 1, type := 0, pos := "ref.go:70", after := #[{ on := 7, ground := Ground.guard }], guard := some (7, false) }) (v := ?_) rfl (by kernel_rfl) (by kernel_rfl) (by kernel_rfl) (fun _ _ _ h => h) (Or.inl ⟨by rfl, ?_⟩) hHeld ?_
                            rotate_left
                            · intro wz hSw
                              go_simp
                              all_goals (with_reducible rfl)
                            try simp only [Act.put, List.setIfInBounds_toArray, List.set_cons_zero, List.set_cons_succ]
                            refine wpAnyH_take (i := 11) (oi := { dst := some 92, op := Op.load 30 (Operand.tmp 91), type := 30, pos := "ref.go:70", after := #[{ on := 10, ground := Ground.data }, { on := 7, ground := Ground.guard }], guard := some (7, false) }) (v := ?_) rfl (by kernel_rfl) (by kernel_rfl) (by kernel_rfl) (fun _ _ _ h => h) (Or.inl ⟨by rfl, ?_⟩) hHeld ?_
                            rotate_left
                            · intro wz hSw
                              have q0 := hgc.out wz hSw
                              go_simp
                              all_goals (with_reducible rfl)
                            try simp only [Act.put, List.setIfInBounds_toArray, List.set_cons_zero, List.set_cons_succ]
                            refine wpAnyH_take (i := 12) (oi := { dst := some 93, op := Op.move (Operand.tmp 7), type := 3, pos := "ref.go:70", after := #[{ on := 7, ground := Ground.guard }], guard := some (7, false) }) (v := ?_) rfl (by kernel_rfl) (by kernel_rfl) (by kernel_rfl) (fun _ _ _ h => h) (Or.inl ⟨by rfl, ?_⟩) hHeld ?_
                            rotate_left
                            · intro wz hSw
                              go_simp
                              all_goals (with_reducible rfl)
                            try simp only [Act.put, List.setIfInBounds_toArray, List.set_cons_zero, List.set_cons_succ]
                            refine wpAnyH_take (i := 13) (oi := { dst := some 94, op := Op.indexAddr 30 (Operand.tmp 92) (Operand.tmp 93), type := 0, pos := "ref.go:70", after := #[{ on := 11, ground := Ground.data }, { on := 12, ground := Ground.data }, { on := 7, ground := Ground.guard }], guard := some (7, false) }) (v := ?_) rfl (by kernel_rfl) (by kernel_rfl) (by kernel_rfl) (fun _ _ _ h => h) (Or.inl ⟨by rfl, ?_⟩) hHeld ?_
                            rotate_left
                            · intro wz hSw
                              go_simp
                              all_goals (with_reducible rfl)
                            try simp only [Act.put, List.setIfInBounds_toArray, List.set_cons_zero, List.set_cons_succ]
                            refine wpAnyH_take (i := 14) (oi := { dst := some 95, op := Op.fieldAddr 75 (Operand.tmp 94) 1, type := 0, pos := "ref.go:70", after := #[{ on := 13, ground := Ground.data }, { on := 7, ground := Ground.guard }], guard := some (7, false) }) (v := ?_) rfl (by kernel_rfl) (by kernel_rfl) (by kernel_rfl) (fun _ _ _ h => h) (Or.inl ⟨by rfl, ?_⟩) hHeld ?_
                            rotate_left
                            · intro wz hSw
                              go_simp
                              all_goals (with_reducible rfl)
                            try simp only [Act.put, List.setIfInBounds_toArray, List.set_cons_zero, List.set_cons_succ]
                            refine wpAnyH_take (i := 15) (oi := { dst := some 96, op := Op.load 32 (Operand.tmp 95), type := 32, pos := "ref.go:70", after := #[{ on := 14, ground := Ground.data }, { on := 7, ground := Ground.guard }], guard := some (7, false) }) rfl (by kernel_rfl) (by kernel_rfl) (by kernel_rfl) (fun _ _ _ h => h) (yieldsIf_load_mid (by rfl) _ _ rfl eb (eo + j * 35 + 1) rfl (de) _ (fun wz h => hrd.out wz h) Tryz.underlying32 rfl (hdi.out)) hHeld ?_
                            try simp only [Act.put, List.setIfInBounds_toArray, List.set_cons_zero, List.set_cons_succ]
                            refine wpAnyH_take (i := 17) (oi := { dst := some 98, op := Op.move (Operand.tmp 7), type := 3, pos := "ref.go:70", after := #[{ on := 7, ground := Ground.guard }], guard := some (7, false) }) (v := ?_) rfl (by kernel_rfl) (by kernel_rfl) (by kernel_rfl) (fun _ _ _ h => h) (Or.inl ⟨by rfl, ?_⟩) hHeld ?_
                            rotate_left
                            · intro wz hSw
                              go_simp
                              all_goals (with_reducible rfl)
                            try simp only [Act.put, List.setIfInBounds_toArray, List.set_cons_zero, List.set_cons_succ]
                            refine wpAnyH_take (i := 18) (oi := { dst := some 99, op := Op.binOp BinOp.add 3 (Operand.tmp 98) (Operand.const (Value.int IntKind.i64 1)) 3, type := 3, pos := "ref.go:70", after := #[{ on := 17, ground := Ground.data }, { on := 7, ground := Ground.guard }], guard := some (7, false) }) (v := ?_) rfl (by kernel_rfl) (by kernel_rfl) (by kernel_rfl) (fun _ _ _ h => h) (Or.inl ⟨by rfl, ?_⟩) hHeld ?_
                            rotate_left
                            · intro wz hSw
                              go_simp
                              all_goals (with_reducible rfl)
                            try simp only [Act.put, List.setIfInBounds_toArray, List.set_cons_zero, List.set_cons_succ]
                            refine wpAnyH_ready (rs := [16]) (by kernel_rfl) (by simp) ?_
                            refine AllReadyH.cons (o := { dst := some 97, op := Op.call { callee := Callee.value (Operand.func 95), args := #[Operand.tmp 90, Operand.tmp 96], argTypes := #[30, 32] }, type := 3, pos := "ref.go:70", after := #[{ on := 9, ground := Ground.data }, { on := 15, ground := Ground.data }, { on := 7, ground := Ground.chain }, { on := 7, ground := Ground.guard }], guard := some (7, false) }) rfl (fun K hK => ?_) AllReadyH.nil
                            rw [if_pos (by rfl)]
                            show Oper.wp _ _ _ _ K _
                            go_simp
                            go_at_call 95
                            refine (hnum.out W5 hHeld).mono ?_
                            rintro e W6 ⟨rfl, hb6⟩
                            refine hK.out _ _ (hHeld.trans (hb6.mono hHeld.size)) (fun hHeld2 => ?_)
                            clear hb6
                            clear hHeld
                            have hHeld := hHeld2
                            clear hHeld2
                            clear hK K
                            try simp only [Act.put, List.setIfInBounds_toArray, List.set_cons_zero, List.set_cons_succ]
                            refine wpAnyH_take (i := 19) (oi := { dst := some 100, op := Op.binOp BinOp.neq 3 (Operand.tmp 97) (Operand.tmp 99) 3, type := 4, pos := "ref.go:70", after := #[{ on := 16, ground := Ground.data }, { on := 18, ground := Ground.data }, { on := 7, ground := Ground.guard }], guard := some (7, false) }) (v := ?_) rfl (by kernel_rfl) (by kernel_rfl) (by kernel_rfl) (fun _ _ _ h => h) (Or.inl ⟨by rfl, ?_⟩) hHeld ?_
                            rotate_left
                            · intro wz hSw
                              go_simp
                              all_goals (with_reducible rfl)
                            try simp only [Act.put, List.setIfInBounds_toArray, List.set_cons_zero, List.set_cons_succ]
                            refine wpAnyH_take (i := 20) (oi := { dst := some 101, op := Op.pick (Operand.tmp 88) (Operand.const (Value.bool true)) (Operand.tmp 100), type := 4, pos := "ref.go:70", after := #[{ on := 7, ground := Ground.data }, { on := 19, ground := Ground.data }], guard := none }) (v := ?_) rfl (by kernel_rfl) (by kernel_rfl) (by kernel_rfl) (fun _ _ _ h => h) (Or.inl ⟨by rfl, ?_⟩) hHeld ?_
                            rotate_left
                            · intro wz hSw
                              go_simp
                              all_goals (with_reducible rfl)
                            try simp only [Act.put, List.setIfInBounds_toArray, List.set_cons_zero, List.set_cons_succ]
                            refine wpAnyH_done (by kernel_rfl) ?_ _
                            have hb9 := Lib.hid hHeld
                            clear hHeld
                            go_wp2_with fail
                            go_roundw
                            case rel => exact ⟨j + 1, by omega, by go_num, hb9, hgo2⟩
                            case measure => simp [intOf]; omega
                          · have hbad2 := Lib.hid (hbad.out (Sto.fineGo_bad he'.out (.inr (by rw [hnn.out]; exact hne))))
                            clear hbad
                            have hbad := hbad2
                            have hnq : decide ((nn : Int) = (j : Int) + 1) = false := decide_eq_false (by omega)
                            have hnq2 : ((nn : Int) == (j : Int) + 1) = false := by rw [beq_eq_false_iff_ne]; omega
                            clear hbad2 hf hq hnn he'
                            go_wp2_with fail
                            refine wp_region_held_drew (S := fun wz => Below W3.heap.size W3 wz) (by kernel_rfl) (hbr.out.drew) (fun hHeld => ?_)
                            generalize wr.drew = W4 at *
                            refine wpAnyH_take (i := 0) (oi := { dst := some 81, op := Op.fieldAddr 121 (Operand.tmp 6) 1, type := 0, pos := "ref.go:70", after := #[], guard := none }) (v := ?_) rfl (by kernel_rfl) (by kernel_rfl) (by kernel_rfl) (fun _ _ _ h => h) (Or.inl ⟨by rfl, ?_⟩) hHeld ?_
                            rotate_left
                            · intro wz hSw
                              go_simp
                              all_goals (with_reducible rfl)
                            try simp only [Act.put, List.setIfInBounds_toArray, List.set_cons_zero, List.set_cons_succ]
                            refine wpAnyH_take (i := 1) (oi := { dst := some 82, op := Op.load 30 (Operand.tmp 81), type := 30, pos := "ref.go:70", after := #[{ on := 0, ground := Ground.data }], guard := none }) (v := ?_) rfl (by kernel_rfl) (by kernel_rfl) (by kernel_rfl) (fun _ _ _ h => h) (Or.inl ⟨by rfl, ?_⟩) hHeld ?_
                            rotate_left
                            · intro wz hSw
                              have q0 := hgc.out wz hSw
                              go_simp
                              all_goals (with_reducible rfl)
                            try simp only [Act.put, List.setIfInBounds_toArray, List.set_cons_zero, List.set_cons_succ]
                            refine wpAnyH_take (i := 2) (oi := { dst := some 83, op := Op.move (Operand.tmp 7), type := 3, pos := "ref.go:70", after := #[], guard := none }) (v := ?_) rfl (by kernel_rfl) (by kernel_rfl) (by kernel_rfl) (fun _ _ _ h => h) (Or.inl ⟨by rfl, ?_⟩) hHeld ?_
                            rotate_left
                            · intro wz hSw
                              go_simp
                              all_goals (with_reducible rfl)
                            try simp only [Act.put, List.setIfInBounds_toArray, List.set_cons_zero, List.set_cons_succ]
                            refine wpAnyH_take (i := 3) (oi := { dst := some 84, op := Op.indexAddr 30 (Operand.tmp 82) (Operand.tmp 83), type := 0, pos := "ref.go:70", after := #[{ on := 1, ground := Ground.data }, { on := 2, ground := Ground.data }], guard := none }) (v := ?_) rfl (by kernel_rfl) (by kernel_rfl) (by kernel_rfl) (fun _ _ _ h => h) (Or.inl ⟨by rfl, ?_⟩) hHeld ?_
                            rotate_left
                            · intro wz hSw
                              go_simp
                              all_goals (with_reducible rfl)
                            try simp only [Act.put, List.setIfInBounds_toArray, List.set_cons_zero, List.set_cons_succ]
                            refine wpAnyH_take (i := 4) (oi := { dst := some 85, op := Op.load 75 (Operand.tmp 84), type := 75, pos := "ref.go:70", after := #[{ on := 3, ground := Ground.data }], guard := none }) rfl (by kernel_rfl) (by kernel_rfl) (by kernel_rfl) (fun _ _ _ h => h) (yieldsIf_load_mid (by rfl) _ _ rfl eb (eo + j * 35) rfl (re) _ (fun wz h => hrg.out wz h) Tryz.underlying75 rfl (hie.out)) hHeld ?_
                            try simp only [Act.put, List.setIfInBounds_toArray, List.set_cons_zero, List.set_cons_succ]
                            refine wpAnyH_ready (rs := [5]) (by kernel_rfl) (by simp) ?_
                            refine AllReadyH.cons (o := { dst := some 86, op := Op.call { callee := Callee.value (Operand.func 94), args := #[Operand.tmp 85], argTypes := #[75] }, type := 4, pos := "ref.go:70", after := #[{ on := 4, ground := Ground.data }], guard := none }) rfl (fun K hK => ?_) AllReadyH.nil
                            rw [if_pos (by rfl)]
                            show Oper.wp _ _ _ _ K _
                            go_simp
                            go_at_call 94
                            refine (hen1.out W4 hHeld).mono ?_
                            rintro e W5 ⟨rfl, hb5⟩
                            refine hK.out _ _ (hHeld.trans (hb5.mono hHeld.size)) (fun hHeld2 => ?_)
                            clear hb5
                            clear hHeld
                            have hHeld := hHeld2
                            clear hHeld2
                            clear hK K
                            try simp only [Act.put, List.setIfInBounds_toArray, List.set_cons_zero, List.set_cons_succ]
                            refine wpAnyH_take (i := 6) (oi := { dst := some 87, op := Op.unOp UnOp.not 4 (Operand.tmp 86), type := 4, pos := "ref.go:70", after := #[{ on := 5, ground := Ground.data }], guard := none }) (v := ?_) rfl (by kernel_rfl) (by kernel_rfl) (by kernel_rfl) (fun _ _ _ h => h) (Or.inl ⟨by rfl, ?_⟩) hHeld ?_
                            rotate_left
                            · intro wz hSw
                              go_simp
                              all_goals (with_reducible rfl)
                            try simp only [Act.put, List.setIfInBounds_toArray, List.set_cons_zero, List.set_cons_succ]
                            refine wpAnyH_take (i := 7) (oi := { dst := some 88, op := Op.move (Operand.tmp 87), type := 4, pos := "ref.go:70", after := #[{ on := 6, ground := Ground.data }, { on := 5, ground := Ground.chain }], guard := none }) (v := ?_) rfl (by kernel_rfl) (by kernel_rfl) (by kernel_rfl) (fun _ _ _ h => h) (Or.inl ⟨by rfl, ?_⟩) hHeld ?_
                            rotate_left
                            · intro wz hSw
                              go_simp
                              all_goals (with_reducible rfl)
                            try simp only [Act.put, List.setIfInBounds_toArray, List.set_cons_zero, List.set_cons_succ]
                            refine wpAnyH_take (i := 8) (oi := { dst := some 89, op := Op.fieldAddr 121 (Operand.tmp 6) 1, type := 0, pos := "ref.go:70", after := #[{ on := 7, ground := Ground.guard }], guard := some (7, false) }) (v := ?_) rfl (by kernel_rfl) (by kernel_rfl) (by kernel_rfl) (fun _ _ _ h => h) (Or.inl ⟨by rfl, ?_⟩) hHeld ?_
                            rotate_left
                            · intro wz hSw
                              go_simp
                              all_goals (with_reducible rfl)
                            try simp only [Act.put, List.setIfInBounds_toArray, List.set_cons_zero, List.set_cons_succ]
                            refine wpAnyH_take (i := 9) (oi := { dst := some 90, op := Op.load 30 (Operand.tmp 89), type := 30, pos := "ref.go:70", after := #[{ on := 8, ground := Ground.data }, { on := 7, ground := Ground.guard }], guard := some (7, false) }) (v := ?_) rfl (by kernel_rfl) (by kernel_rfl) (by kernel_rfl) (fun _ _ _ h => h) (Or.inl ⟨by rfl, ?_⟩) hHeld ?_
                            rotate_left
                            · intro wz hSw
                              have q0 := hgc.out wz hSw
                              go_simp
                              all_goals (with_reducible rfl)
                            try simp only [Act.put, List.setIfInBounds_toArray, List.set_cons_zero, List.set_cons_succ]
                            refine wpAnyH_take (i := 10) (oi := { dst := some 91, op := Op.fieldAddr 121 (Operand.tmp 6) 1, type := 0, pos := "ref.go:70", after := #[{ on := 7, ground := Ground.guard }], guard := some (7, false) }) (v := ?_) rfl (by kernel_rfl) (by kernel_rfl) (by kernel_rfl) (fun _ _ _ h => h) (Or.inl ⟨by rfl, ?_⟩) hHeld ?_
                            rotate_left
                            · intro wz hSw
                              go_simp
                              all_goals (with_reducible rfl)
                            try simp only [Act.put, List.setIfInBounds_toArray, List.set_cons_zero, List.set_cons_succ]
                            refine wpAnyH_take (i := 11) (oi := { dst := some 92, op := Op.load 30 (Operand.tmp 91), type := 30, pos := "ref.go:70", after := #[{ on := 10, ground := Ground.data }, { on := 7, ground := Ground.guard }], guard := some (7, false) }) (v := ?_) rfl (by kernel_rfl) (by kernel_rfl) (by kernel_rfl) (fun _ _ _ h => h) (Or.inl ⟨by rfl, ?_⟩) hHeld ?_
                            rotate_left
                            · intro wz hSw
                              have q0 := hgc.out wz hSw
                              go_simp
                              all_goals (with_reducible rfl)
                            try simp only [Act.put, List.setIfInBounds_toArray, List.set_cons_zero, List.set_cons_succ]
                            refine wpAnyH_take (i := 12) (oi := { dst := some 93, op := Op.move (Operand.tmp 7), type := 3, pos := "ref.go:70", after := #[{ on := 7, ground := Ground.guard }], guard := some (7, false) }) (v := ?_) rfl (by kernel_rfl) (by kernel_rfl) (by kernel_rfl) (fun _ _ _ h => h) (Or.inl ⟨by rfl, ?_⟩) hHeld ?_
                            rotate_left
                            · intro wz hSw
                              go_simp
                              all_goals (with_reducible rfl)
                            try simp only [Act.put, List.setIfInBounds_toArray, List.set_cons_zero, List.set_cons_succ]
                            refine wpAnyH_take (i := 13) (oi := { dst := some 94, op := Op.indexAddr 30 (Operand.tmp 92) (Operand.tmp 93), type := 0, pos := "ref.go:70", after := #[{ on := 11, ground := Ground.data }, { on := 12, ground := Ground.data }, { on := 7, ground := Ground.guard }], guard := some (7, false) }) (v := ?_) rfl (by kernel_rfl) (by kernel_rfl) (by kernel_rfl) (fun _ _ _ h => h) (Or.inl ⟨by rfl, ?_⟩) hHeld ?_
                            rotate_left
                            · intro wz hSw
                              go_simp
                              all_goals (with_reducible rfl)
                            try simp only [Act.put, List.setIfInBounds_toArray, List.set_cons_zero, List.set_cons_succ]
                            refine wpAnyH_take (i := 14) (oi := { dst := some 95, op := Op.fieldAddr 75 (Operand.tmp 94) 1, type := 0, pos := "ref.go:70", after := #[{ on := 13, ground := Ground.data }, { on := 7, ground := Ground.guard }], guard := some (7, false) }) (v := ?_) rfl (by kernel_rfl) (by kernel_rfl) (by kernel_rfl) (fun _ _ _ h => h) (Or.inl ⟨by rfl, ?_⟩) hHeld ?_
                            rotate_left
                            · intro wz hSw
                              go_simp
                              all_goals (with_reducible rfl)
                            try simp only [Act.put, List.setIfInBounds_toArray, List.set_cons_zero, List.set_cons_succ]
                            refine wpAnyH_take (i := 15) (oi := { dst := some 96, op := Op.load 32 (Operand.tmp 95), type := 32, pos := "ref.go:70", after := #[{ on := 14, ground := Ground.data }, { on := 7, ground := Ground.guard }], guard := some (7, false) }) rfl (by kernel_rfl) (by kernel_rfl) (by kernel_rfl) (fun _ _ _ h => h) (yieldsIf_load_mid (by rfl) _ _ rfl eb (eo + j * 35 + 1) rfl (de) _ (fun wz h => hrd.out wz h) Tryz.underlying32 rfl (hdi.out)) hHeld ?_
                            try simp only [Act.put, List.setIfInBounds_toArray, List.set_cons_zero, List.set_cons_succ]
                            refine wpAnyH_take (i := 17) (oi := { dst := some 98, op := Op.move (Operand.tmp 7), type := 3, pos := "ref.go:70", after := #[{ on := 7, ground := Ground.guard }], guard := some (7, false) }) (v := ?_) rfl (by kernel_rfl) (by kernel_rfl) (by kernel_rfl) (fun _ _ _ h => h) (Or.inl ⟨by rfl, ?_⟩) hHeld ?_
                            rotate_left
                            · intro wz hSw
                              go_simp
                              all_goals (with_reducible rfl)
                            try simp only [Act.put, List.setIfInBounds_toArray, List.set_cons_zero, List.set_cons_succ]
                            refine wpAnyH_take (i := 18) (oi := { dst := some 99, op := Op.binOp BinOp.add 3 (Operand.tmp 98) (Operand.const (Value.int IntKind.i64 1)) 3, type := 3, pos := "ref.go:70", after := #[{ on := 17, ground := Ground.data }, { on := 7, ground := Ground.guard }], guard := some (7, false) }) (v := ?_) rfl (by kernel_rfl) (by kernel_rfl) (by kernel_rfl) (fun _ _ _ h => h) (Or.inl ⟨by rfl, ?_⟩) hHeld ?_
                            rotate_left
                            · intro wz hSw
                              go_simp
                              all_goals (with_reducible rfl)
                            try simp only [Act.put, List.setIfInBounds_toArray, List.set_cons_zero, List.set_cons_succ]
                            refine wpAnyH_ready (rs := [16]) (by kernel_rfl) (by simp) ?_
                            refine AllReadyH.cons (o := { dst := some 97, op := Op.call { callee := Callee.value (Operand.func 95), args := #[Operand.tmp 90, Operand.tmp 96], argTypes := #[30, 32] }, type := 3, pos := "ref.go:70", after := #[{ on := 9, ground := Ground.data }, { on := 15, ground := Ground.data }, { on := 7, ground := Ground.chain }, { on := 7, ground := Ground.guard }], guard := some (7, false) }) rfl (fun K hK => ?_) AllReadyH.nil
                            rw [if_pos (by rfl)]
                            show Oper.wp _ _ _ _ K _
                            go_simp
                            go_at_call 95
                            refine (hnum.out W5 hHeld).mono ?_
                            rintro e W6 ⟨rfl, hb6⟩
                            refine hK.out _ _ (hHeld.trans (hb6.mono hHeld.size)) (fun hHeld2 => ?_)
                            clear hb6
                            clear hHeld
                            have hHeld := hHeld2
                            clear hHeld2
                            clear hK K
                            try simp only [Act.put, List.setIfInBounds_toArray, List.set_cons_zero, List.set_cons_succ]
                            refine wpAnyH_take (i := 19) (oi := { dst := some 100, op := Op.binOp BinOp.neq 3 (Operand.tmp 97) (Operand.tmp 99) 3, type := 4, pos := "ref.go:70", after := #[{ on := 16, ground := Ground.data }, { on := 18, ground := Ground.data }, { on := 7, ground := Ground.guard }], guard := some (7, false) }) (v := ?_) rfl (by kernel_rfl) (by kernel_rfl) (by kernel_rfl) (fun _ _ _ h => h) (Or.inl ⟨by rfl, ?_⟩) hHeld ?_
                            rotate_left
                            · intro wz hSw
                              go_simp
                              all_goals (with_reducible rfl)
                            try simp only [Act.put, List.setIfInBounds_toArray, List.set_cons_zero, List.set_cons_succ]
                            refine wpAnyH_take (i := 20) (oi := { dst := some 101, op := Op.pick (Operand.tmp 88) (Operand.const (Value.bool true)) (Operand.tmp 100), type := 4, pos := "ref.go:70", after := #[{ on := 7, ground := Ground.data }, { on := 19, ground := Ground.data }], guard := none }) (v := ?_) rfl (by kernel_rfl) (by kernel_rfl) (by kernel_rfl) (fun _ _ _ h => h) (Or.inl ⟨by rfl, ?_⟩) hHeld ?_
                            rotate_left
                            · intro wz hSw
                              go_simp
                              all_goals (with_reducible rfl)
                            try simp only [Act.put, List.setIfInBounds_toArray, List.set_cons_zero, List.set_cons_succ]
                            refine wpAnyH_done (by kernel_rfl) ?_ _
                            have hend := Lib.hid (hbad.out W6 hHeld)
                            clear hHeld
                            go_wp2_with fail
                            exact hend.out
                      · obtain rfl : j = en := by omega
                        have hfe : Sto.fineGo [] x.es = true := by rw [hf.out, List.drop_eq_nil_of_le (by omega)]; rfl
                        have hl3 := hgood.out hfe
                        have hb9 : Hid (Below W0.heap.size W0 wr) := hb3.out.trans (hbr.out.mono hb3.out.size)
                        clear hinner hgood hfe hf
                        go_wp2_with fail
                        go_roundw
                        case rel => exact ⟨k + 1, x.folder, by omega, by go_num, hb9, hnp, hl3⟩
                        case measure => simp [intOf]; omega
      · obtain rfl : n = k := by omega
        rw [List.drop_eq_nil_of_le (by omega)] at hl
        have hend := Lib.hid (hf0.out wr hbo.out hl.out)
        clear hl hf3
        go_wp2_with fail
        exact hend.out
  · have hchk : Sto.chkS s = 300 := by simp [Sto.chkS, hne]
    have hend := Lib.hid (hf1.out 300 W0 (Below.refl _ _) hchk)
    clear hf1 hchk hsc H'
    by_cases h0 : 0 ≤ s.id
    · by_cases h1 : s.id < 4
      · cases hk : Sto.keyB s.priv with
        | true => exact absurd (by simp [Sto.newE, h0, h1, hk]) hne
        | false =>
          rw [publicK_f (show keyOk s.priv = false from hk)] at hpb
          clear hne hk
          go_enter Tryz.func42, Tryz.ntmps42
          go_wp2_with (first | (rw [hW0.out, hsb.out]) | (rw [hW0.out]))
          refine (hpb.out _).mono ?_
          rintro e w1 ⟨rfl, hw1⟩
          rw [hw1]
          clear hw1 w1
          go_wp2_with fail
          exact hend.out
      · obtain ⟨⟨p1, p2⟩, hpq⟩ : ∃ q, Hid (publicK 4 s.priv = q) := ⟨_, rfl⟩
        rw [hpq.out] at hpb
        clear hne hpq
        go_enter Tryz.func42, Tryz.ntmps42
        go_wp2_with (first | (rw [hW0.out, hsb.out]) | (rw [hW0.out]))
        refine (hpb.out _).mono ?_
        rintro e w1 ⟨rfl, hw1⟩
        rw [hw1]
        clear hw1 w1
        go_wp2_with fail
        exact hend.out
    · obtain ⟨⟨p1, p2⟩, hpq⟩ : ∃ q, Hid (publicK 4 s.priv = q) := ⟨_, rfl⟩
      rw [hpq.out] at hpb
      clear hne hpq
      go_enter Tryz.func42, Tryz.ntmps42
      go_wp2_with (first | (rw [hW0.out, hsb.out]) | (rw [hW0.out]))
      refine (hpb.out _).mono ?_
      rintro e w1 ⟨rfl, hw1⟩
      rw [hw1]
      clear hw1 w1
      go_wp2_with fail
      exact hend.out
end Go.Proofs.YtnonfdcbnkdmcaaGreatDoor
