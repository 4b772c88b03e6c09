/- the reference 30: SameEntries, of any two lists the reference 31: shown, Honest, Apart the reference 31: Honest, Apart -/
import Derived.Test.YtnonfdcbnkdmcaaGreatDoorLfA
import Derived.Test.YtnonfdcbnkdmcaaGreatDoorSgA
import Derived.Deep.QuietTactic
import Derived.BigQuiet
namespace Go.Proofs.YtnonfdcbnkdmcaaGreatDoor
open Go.RowKit Go.Mem Go.Shelf
open Go.Sto (Ent sameE sameL)

theorem txtB_inj {x y : List Nat} (hx : ∀ u ∈ x, u < 256) (hy : ∀ u ∈ y, u < 256) (h : txtB x = txtB y) : x = y := by
  have h2 := congrArg (fun b : ByteArray => b.data.toList) h
  simp only [txtB, strOfNums_data] at h2
  rw [List.map_map, List.map_map] at h2
  refine bytes_map hx hy ?_
  refine Eq.trans ?_ (h2.trans ?_)
  · exact List.map_congr_left fun u _ => by simp
  · exact List.map_congr_left fun u _ => by simp

set_option maxRecDepth 20000 in
set_option maxHeartbeats 16000000 in
theorem r30same_any (K1 K2 : Nat → Prop) (a1 : Option Addr) (n1 c1 : Nat) (l1 : List Ent) (a2 : Option Addr) (n2 c2 : Nat) (l2 : List Ent) (w : World) (H1 : ES K1 w a1 n1 c1 l1) (H2 : ES K2 w a2 n2 c2 l2) :
    Calls Tryz.prog 14 #[.slice a1 n1 c1, .slice a2 n2 c2] w (RetBo (sameL l1 l2) w) := by
  have e1 := H1.rs.len
  have e2 := H2.rs.len
  have hbd1 := H1.bd
  have hbd2 := H2.bd
  have H1' := Lib.hid H1; have H2' := Lib.hid H2
  clear H1 H2
  obtain ⟨R, hR⟩ : ∃ R, Hid (sameL l1 l2 = R) := ⟨_, rfl⟩
  obtain ⟨X, hX⟩ : ∃ X, X = RetBo (sameL l1 l2) w := ⟨_, rfl⟩
  have hfin : Hid (∀ b W, R = b → Below w.heap.size w W → X (.returned (.bool b)) W) := fun b W hb h => by rw [hX, hR.out, hb]; exact ⟨rfl, h⟩
  rw [← hX]
  clear hX
  by_cases hn : n1 = n2
  case neg =>
    have q1 : ((n1 : Int) != (n2 : Int)) = true := by simp; omega
    have hf : R = false := by
      rw [← hR.out]
      cases hs : sameL l1 l2 with
      | false => rfl
      | true => exact absurd (Sto.sameL_len hs) (by omega)
    have hend := Lib.hid (hfin.out false w hf (Below.refl _ w))
    clear hfin hf hR
    go_enter Tryz.func14, Tryz.ntmps14
    go_wp2_with fail
    exact hend.out
  case pos =>
  subst hn
  have n63 : (n1 : Int) ≤ 100000 := by omega
  go_enter Tryz.func14, Tryz.ntmps14
  go_wp2_with fail
  go_loopw [5] (fun i wr => ∃ k : Nat, k ≤ n1 ∧ i = .int .i64 (k : Int) ∧ Hid (∃ m, wr = w.drewN m) ∧ Hid (sameL (l1.drop k) (l2.drop k) = R)) (fun i _ => n1 - (intOf i).toNat)
  case atStart => exact ⟨0, Nat.zero_le _, rfl, ⟨0, rfl⟩, hR⟩
  case round =>
    obtain ⟨k, hk, rfl, hbq, hS⟩ := hrel
    generalize wr = wq at *
    have hb : Hid (Below w.heap.size w wq) := by obtain ⟨m, e⟩ := hbq.out; show Below _ _ _; rw [e]; exact below_drewQ (Below.refl _ w) m
    by_cases hlt : k < n1
    · obtain ⟨e, he⟩ : ∃ e, l1[k]? = some e := ⟨_, List.getElem?_eq_getElem (by omega)⟩
      obtain ⟨f, hf⟩ : ∃ f, l2[k]? = some f := ⟨_, List.getElem?_eq_getElem (by omega)⟩
      have hS' := hS.out
      rw [Sto.sameL_step he hf] at hS'
      unfold sameE at hS'
      obtain ⟨b1, o1, r1, rfl, hb1, _, ⟨ho, da1, dn1, dc1, er1, hbk1⟩, hrl1, hrg1⟩ := (H1'.out.below hb.out).rs.get he
      obtain ⟨b2, o2, r2, rfl, hb2, _, ⟨hp, da2, dn2, dc2, er2, hbk2⟩, hrl2, hrg2⟩ := (H2'.out.below hb.out).rs.get hf
      subst er1 er2
      have q1 := EntR.of hrg1 ho.dig
      have q2 := EntR.of hrg2 hp.dig
      have x1 := q1.kind
      have x2 := q1.data
      have x3 := q1.gone
      have y1 := q2.kind
      have y2 := q2.data
      have y3 := q2.gone
      have d1 := Lib.hid q1.dig
      have d2 := Lib.hid q2.dig
      have k0 : (0 : Int) ≤ (k : Int) := by omega
      have k1 : (k : Int) < (n1 : Int) := by omega
      have hdi : Hid ((Tryz.prog.info? 32).map (·.size) = some (bv e.dig).length) := by show _ = _; rw [bv_length, ho.dig]; exact size35
      have hdj : Hid ((Tryz.prog.info? 32).map (·.size) = some (bv f.dig).length) := by show _ = _; rw [bv_length, hp.dig]; exact size35
      have heq0 := Lib.hid (fun W => eq_dig (x := e.dig) (y := f.dig) ⟨ho.dig, ho.lt⟩ ⟨hp.dig, hp.lt⟩ W)
      have hc1 : ∀ m, (convert 71 9 (.slice da1 dn1 dc1)).run Tryz.prog (wq.drewN m) = .ok (.string (txtB e.data)) (wq.drewN m) := fun m => bs_text (hbk1.bs.below (below_drewQ (Below.refl _ wq) m))
      have hc2 : ∀ m, (convert 71 9 (.slice da2 dn2 dc2)).run Tryz.prog (wq.drewN m) = .ok (.string (txtB f.data)) (wq.drewN m) := fun m => bs_text (hbk2.bs.below (below_drewQ (Below.refl _ wq) m))
      have hti : Hid (txtB e.data = txtB f.data → e.data = f.data) := txtB_inj hbk1.bs.lt hbk2.bs.lt
      obtain ⟨ek, hek⟩ : ∃ x, e.kind = x := ⟨_, rfl⟩
      obtain ⟨fk, hfk⟩ : ∃ x, f.kind = x := ⟨_, rfl⟩
      obtain ⟨eg, heg⟩ : ∃ x, e.gone = x := ⟨_, rfl⟩
      obtain ⟨fg, hfg⟩ : ∃ x, f.gone = x := ⟨_, rfl⟩
      obtain ⟨ed, hed⟩ : ∃ x, e.dig = x := ⟨_, rfl⟩
      obtain ⟨fd, hfd⟩ : ∃ x, f.dig = x := ⟨_, rfl⟩
      obtain ⟨et, het⟩ : ∃ x, txtB e.data = x := ⟨_, rfl⟩
      obtain ⟨ft, hft⟩ : ∃ x, txtB f.data = x := ⟨_, rfl⟩
      obtain ⟨eb, heb⟩ : ∃ x, e.data = x := ⟨_, rfl⟩
      obtain ⟨fb, hfb⟩ : ∃ x, f.data = x := ⟨_, rfl⟩
      rw [hek, hfk, heg, hfg, hed, hfd, heb, hfb] at hS'
      rw [hek] at x1
      rw [hfk] at y1
      rw [heg] at x3
      rw [hfg] at y3
      rw [hed] at d1 hdi heq0
      rw [hfd] at d2 hdj heq0
      rw [het] at hc1 hti
      rw [hft] at hc2 hti
      rw [heb, hfb] at hti
      have htj : Hid (eb = fb → et = ft) := fun h => by rw [← het, ← hft, heb, hfb, h]
      clear q1 q2 hrg1 hrg2 hrl1 hrl2 hek hfk heg hfg hed hfd het hft heb hfb ho hp he hf hbk1 hbk2 hS
      obtain ⟨rD, hrD⟩ : ∃ r, bv ed = r := ⟨_, rfl⟩
      obtain ⟨rE, hrE⟩ : ∃ r, bv fd = r := ⟨_, rfl⟩
      rw [hrD] at d1 hdi heq0
      rw [hrE] at d2 hdj heq0
      clear hrD hrE
      by_cases c1 : ek = fk
      case neg =>
        have p1 : (ek != fk) = true := by simpa using c1
        have hf : R = false := by rw [← hS', decide_eq_false c1]; rfl
        clear hS' c1 heq0 hti htj
        go_wp2_with fail
        refine wp_region_quiet_lit (by kernel_rfl) (by kernel_rfl) ?_
        repeat (first
          | go_big_quiet_step (fail)
          | (go_big_quiet_want
             refine quiet_load_mid 32 (.tmp 32) rfl b1 (o1 + k * 35 + 1) (by rfl) rD _ d1.out Tryz.underlying32 (by rfl) hdi.out ?_
             simp only [Act.put, List.setIfInBounds_toArray, List.set_cons_zero, List.set_cons_succ]
             go_big_quiet_on)
          | (go_big_quiet_want
             refine quiet_load_mid 32 (.tmp 37) rfl b2 (o2 + k * 35 + 1) (by rfl) rE _ d2.out Tryz.underlying32 (by rfl) hdj.out ?_
             simp only [Act.put, List.setIfInBounds_toArray, List.set_cons_zero, List.set_cons_succ]
             go_big_quiet_on))
        refine wpQuiet_nil ?_
        rintro _ ⟨nq, rfl⟩
        have hend := Lib.hid (hfin.out false (wq.drewN nq) hf (below_drewQ hb.out nq))
        clear hfin hf
        go_wp2_with fail
        exact hend.out
      case pos =>
      have p1 : (ek != fk) = false := by simpa using c1
      rw [decide_eq_true c1, Bool.true_and] at hS'
      clear c1
      by_cases c2 : ed = fd
      case neg =>
        have heq := heq0.out
        rw [decide_eq_false c2] at heq
        have hf : R = false := by rw [← hS', decide_eq_false c2]; rfl
        clear hS' c2 heq0 hti htj
        go_wp2_with fail
        refine wp_region_quiet_lit (by kernel_rfl) (by kernel_rfl) ?_
        repeat (first
          | go_big_quiet_step (fail)
          | (go_big_quiet_want
             refine quiet_load_mid 32 (.tmp 32) rfl b1 (o1 + k * 35 + 1) (by rfl) rD _ d1.out Tryz.underlying32 (by rfl) hdi.out ?_
             simp only [Act.put, List.setIfInBounds_toArray, List.set_cons_zero, List.set_cons_succ]
             go_big_quiet_on)
          | (go_big_quiet_want
             refine quiet_load_mid 32 (.tmp 37) rfl b2 (o2 + k * 35 + 1) (by rfl) rE _ d2.out Tryz.underlying32 (by rfl) hdj.out ?_
             simp only [Act.put, List.setIfInBounds_toArray, List.set_cons_zero, List.set_cons_succ]
             go_big_quiet_on))
        refine wpQuiet_nil ?_
        rintro _ ⟨nq, rfl⟩
        have hend := Lib.hid (hfin.out false (wq.drewN nq) hf (below_drewQ hb.out nq))
        clear hfin hf
        go_wp2_with fail
        exact hend.out
      case pos =>
      have heq := heq0.out
      rw [decide_eq_true c2] at heq
      rw [decide_eq_true c2, Bool.true_and] at hS'
      clear c2 heq0
      by_cases c3 : eb = fb
      case neg =>
        have p3 : (et.toList == ft.toList) = false := beq_eq_false_iff_ne.2 fun h => c3 (hti.out (by
          rw [ByteArray.toList_eq, ByteArray.toList_eq] at h
          exact ByteArray.ext (Array.ext' h)))
        have hf : R = false := by rw [← hS', decide_eq_false c3]; simp
        clear hS' c3 hti htj
        go_wp2_with fail
        refine wp_region_quiet_lit (by kernel_rfl) (by kernel_rfl) ?_
        repeat (first
          | go_big_quiet_step (fail)
          | (go_big_quiet_want
             refine quiet_load_mid 32 (.tmp 32) rfl b1 (o1 + k * 35 + 1) (by rfl) rD _ d1.out Tryz.underlying32 (by rfl) hdi.out ?_
             simp only [Act.put, List.setIfInBounds_toArray, List.set_cons_zero, List.set_cons_succ]
             go_big_quiet_on)
          | (go_big_quiet_want
             refine quiet_load_mid 32 (.tmp 37) rfl b2 (o2 + k * 35 + 1) (by rfl) rE _ d2.out Tryz.underlying32 (by rfl) hdj.out ?_
             simp only [Act.put, List.setIfInBounds_toArray, List.set_cons_zero, List.set_cons_succ]
             go_big_quiet_on))
        refine wpQuiet_nil ?_
        rintro _ ⟨nq, rfl⟩
        have hend := Lib.hid (hfin.out false (wq.drewN nq) hf (below_drewQ hb.out nq))
        clear hfin hf
        go_wp2_with fail
        exact hend.out
      case pos =>
      have p3 : (et.toList == ft.toList) = true := by rw [htj.out c3]; simp
      rw [decide_eq_true c3, Bool.and_true] at hS'
      clear c3 hti htj
      by_cases c4 : eg = fg
      case neg =>
        have hf : R = false := by rw [← hS', decide_eq_false c4]; rfl
        obtain rfl : fg = !eg := by cases eg <;> cases fg <;> simp_all
        clear hS' c4
        go_wp2_with fail
        refine wp_region_quiet_lit (by kernel_rfl) (by kernel_rfl) ?_
        repeat (first
          | go_big_quiet_step (fail)
          | (go_big_quiet_want
             refine quiet_load_mid 32 (.tmp 32) rfl b1 (o1 + k * 35 + 1) (by rfl) rD _ d1.out Tryz.underlying32 (by rfl) hdi.out ?_
             simp only [Act.put, List.setIfInBounds_toArray, List.set_cons_zero, List.set_cons_succ]
             go_big_quiet_on)
          | (go_big_quiet_want
             refine quiet_load_mid 32 (.tmp 37) rfl b2 (o2 + k * 35 + 1) (by rfl) rE _ d2.out Tryz.underlying32 (by rfl) hdj.out ?_
             simp only [Act.put, List.setIfInBounds_toArray, List.set_cons_zero, List.set_cons_succ]
             go_big_quiet_on))
        refine wpQuiet_nil ?_
        rintro _ ⟨nq, rfl⟩
        have hend := Lib.hid (hfin.out false (wq.drewN nq) hf (below_drewQ hb.out nq))
        clear hfin hf
        go_wp2_with fail
        exact hend.out
      case pos =>
        rw [decide_eq_true c4, Bool.true_and] at hS'
        have hS2 := Lib.hid hS'
        subst c4
        clear hS'
        go_wp2_with fail
        refine wp_region_quiet_lit (by kernel_rfl) (by kernel_rfl) ?_
        repeat (first
          | go_big_quiet_step (fail)
          | (go_big_quiet_want
             refine quiet_load_mid 32 (.tmp 32) rfl b1 (o1 + k * 35 + 1) (by rfl) rD _ d1.out Tryz.underlying32 (by rfl) hdi.out ?_
             simp only [Act.put, List.setIfInBounds_toArray, List.set_cons_zero, List.set_cons_succ]
             go_big_quiet_on)
          | (go_big_quiet_want
             refine quiet_load_mid 32 (.tmp 37) rfl b2 (o2 + k * 35 + 1) (by rfl) rE _ d2.out Tryz.underlying32 (by rfl) hdj.out ?_
             simp only [Act.put, List.setIfInBounds_toArray, List.set_cons_zero, List.set_cons_succ]
             go_big_quiet_on))
        refine wpQuiet_nil ?_
        rintro _ ⟨nq, rfl⟩
        have hb3 : Hid (∃ m, wq.drewN nq = w.drewN m) := by obtain ⟨m, e⟩ := hbq.out; rw [e, World.drewN_drewN]; exact ⟨_, rfl⟩
        go_wp2_with fail
        go_roundw
        case rel => exact ⟨k + 1, by omega, by go_num, hb3, hS2⟩
        case measure => simp [intOf]; omega
    · obtain rfl : n1 = k := by omega
      have hf : R = true := by
        rw [← hS.out, List.drop_eq_nil_of_le (by omega), List.drop_eq_nil_of_le (by omega)]
        rfl
      have hend := Lib.hid (hfin.out true wq hf hb.out)
      clear hfin hf hS hR
      go_wp2_with fail
      exact hend.out
end Go.Proofs.YtnonfdcbnkdmcaaGreatDoor
namespace Go.Proofs.YtnonfdcbnkdmcaaGreatDoor
open Go.RowKit Go.Mem Go.Shelf
open Go.Sto (Ent St Rul BdL)

/-- what the reference's shown hands back. -/
def RshPost (x : List Ent × List Ent × Int) (w : World) (e : Ending) (w' : World) : Prop :=
  ∃ ta tn tc la ln lc, e = .returned (.tuple #[.slice ta tn tc, .slice la ln lc, .int .i64 x.2.2]) ∧ ES (fun _ => True) w' ta tn tc x.1 ∧ ES (fun _ => True) w' la ln lc x.2.1 ∧ Below w.heap.size w w'

set_option maxRecDepth 20000 in
set_option maxHeartbeats 16000000 in
theorem r31shown_any (a : Option Addr) (n c : Nat) (s : St) (ra : Option Addr) (rn rc : Nat) (rs : List Rul) (dev f : Int) (w : World) (H : SV (fun _ => True) w a n c s) (HR : RuS w ra rn rc rs) (hbd : BdL 0 (Sto.ents s f)) :
    Calls Tryz.prog 39 #[.agg (liC s a n c ra rn rc).toArray, .int .i64 dev, .int .i64 f] w (RshPost (Sto.shownL s rs dev f) w) := by
  have hlen := HR.len
  have hmx := RS.max HR
  have hle := RS.le HR
  have H' := Lib.hid H; have HR' := Lib.hid HR
  have hbd' := Lib.hid hbd
  clear H HR hbd
  obtain ⟨sb, hsb⟩ : ∃ sb, Hid (w.heap.size = sb) := ⟨_, rfl⟩
  obtain ⟨W1, hW1⟩ : ∃ W1, W1 = w.alloc (.cells #[.int .i64 s.id, .int .i64 s.priv, .slice a n c, .slice ra rn rc] 27) := ⟨_, rfl⟩
  have hB : Hid (Blk W1 sb 27 (liC s a n c ra rn rc)) := by rw [hW1, ← hsb.out]; exact Blk.new w _ (liC s a n c ra rn rc)
  have hbw : Hid (Below w.heap.size w W1) := by rw [hW1]; exact (Below.refl _ w).alloc (Nat.le_refl _) _
  have hc := Lib.hid (fun W (hW : Below w.heap.size w W) => r31check_any a n c s ra rn rc rs W (H'.out.below hW) (HR'.out.below hW))
  have hft := Lib.hid (fun W (hW : Below w.heap.size w W) => r30fetch_any a n c s f 1 ⟨by decide, by decide⟩ W (H'.out.below hW))
  have n63 : (rn : Int) ≤ 9223372036854775807 := by omega
  unfold liC at hc ⊢
  obtain ⟨X, hXX⟩ : ∃ X, Hid (X = RshPost (Sto.shownL s rs dev f) w) := ⟨_, rfl⟩
  rw [← hXX.out]
  have hret : Hid (∀ T L q ta tn tc la ln lc W, Sto.shownL s rs dev f = (T, L, q) → ES (fun _ => True) W ta tn tc T → ES (fun _ => True) W la ln lc L → Below w.heap.size w W → X (.returned (.tuple #[.slice ta tn tc, .slice la ln lc, .int .i64 q])) W) := fun T L q ta tn tc la ln lc W e h1 h2 h3 => by
    rw [hXX.out, e]; exact ⟨ta, tn, tc, la, ln, lc, rfl, h1, h2, h3⟩
  have herr : Hid (∀ q W, Sto.shownL s rs dev f = ([], [], q) → Below w.heap.size w W → X (.returned (.tuple #[.slice none 0 0, .slice none 0 0, .int .i64 q])) W) := fun q W e h => hret.out [] [] q none 0 0 none 0 0 W e (ES.nil0 _ _) (ES.nil0 _ _) h
  clear hXX
  obtain ⟨q0, hq0⟩ : ∃ q0, Hid (Sto.chkL s rs = q0) := ⟨_, rfl⟩
  rw [hq0.out] at hc
  go_enter Tryz.func39, Tryz.ntmps39
  go_upto_region 1 with fail
  rw [hsb.out]
  generalize hWq : w.alloc _ = Wq
  obtain rfl : W1 = Wq := by rw [← hWq, hW1]
  clear hWq hW1
  have c0 := hB.out.at_ (i := 0) rfl
  have c1 := hB.out.at_ (i := 1) rfl
  have c2 := hB.out.at_ (i := 2) rfl
  have c3 := hB.out.at_ (i := 3) rfl
  go_wp2_with fail
  refine (hc.out _ hbw.out).mono ?_
  rintro e w2 ⟨rfl, hz⟩
  replace hB := Lib.hid (hB.out.below hz hB.out.lt)
  replace hbw := Lib.hid (hbw.out.trans (hz.mono hbw.out.size))
  clear hz hc c0 c1 c2 c3
  by_cases h0 : q0 = 0
  case neg =>
    have g0 : (q0 != 0) = true := by simpa using h0
    have hend := Lib.hid (herr.out q0 w2 (by unfold Sto.shownL; rw [if_neg (by rw [hq0.out]; exact h0), hq0.out]) hbw.out)
    clear h0 herr hret
    go_wp2_with fail
    exact hend.out
  case pos =>
  subst h0
  have hall := Sto.chkL_all hq0.out
  have hok : Hid (∀ k x, rs[k]? = some x → Sto.okRul x = true) := fun k x h => List.all_eq_true.1 hall.2.2 x (List.mem_of_getElem? h)
  have hr64 : rn ≤ 64 := by have := hall.2.1; omega
  clear hall
  by_cases h1 : 0 ≤ dev ∧ dev < 512
  case neg =>
    have hend := Lib.hid (herr.out 1 w2 (by unfold Sto.shownL Sto.devB; rw [if_pos hq0.out, decide_eq_false h1]; rfl) hbw.out)
    clear herr hret
    by_cases h2 : dev < 0
    · have g1 : decide (dev < 0) = true := decide_eq_true h2
      clear h1 h2
      go_wp2_with fail
      exact hend.out
    · have g1 : decide (dev < 0) = false := decide_eq_false h2
      have g2 : decide (512 ≤ dev) = true := decide_eq_true (by omega)
      clear h1 h2
      go_wp2_with fail
      exact hend.out
  case pos =>
  have g1 : decide (dev < 0) = false := decide_eq_false (by omega)
  have g2 : decide (512 ≤ dev) = false := decide_eq_false (by omega)
  have hsh : Hid (Sto.shownL s rs dev f = if (Sto.fetchS s f 1).2 = 0 then ((Sto.fetchS s f 1).1, Sto.lies dev rs (Sto.fetchS s f 1).1, 0) else ([], [], (Sto.fetchS s f 1).2)) := by
    show _ = _
    unfold Sto.shownL Sto.devB
    rw [if_pos hq0.out, decide_eq_true h1, if_pos rfl]
  have hTb := Lib.hid (Sto.fetch_bd (fr := 1) hbd'.out)
  clear h1 hq0 hbd'
  obtain ⟨FS, hFS⟩ : ∃ x, Hid (Sto.fetchS s f 1 = x) := ⟨_, rfl⟩
  rw [hFS.out] at hft hsh hTb
  clear hFS
  obtain ⟨T, q1⟩ := FS
  simp only [] at hsh hTb
  have c0 := hB.out.at_ (i := 0) rfl
  have c1 := hB.out.at_ (i := 1) rfl
  have c2 := hB.out.at_ (i := 2) rfl
  go_wp2_with fail
  refine (hft.out _ hbw.out).mono ?_
  rintro e w3 ⟨ta, tc, rfl, hES, hz⟩
  try simp only [] at hES
  replace hB := Lib.hid (hB.out.below hz hB.out.lt)
  replace hbw := Lib.hid (hbw.out.trans (hz.mono hbw.out.size))
  clear hz hft c0 c1 c2
  try simp only []
  obtain ⟨tn, htn⟩ : ∃ n, T.length = n := ⟨_, rfl⟩
  rw [htn] at hES ⊢
  have hES' := Lib.hid hES
  clear hES htn
  by_cases h2 : q1 = 0
  case neg =>
    have g3 : (q1 != 0) = true := by simpa using h2
    have hend := Lib.hid (herr.out q1 w3 (by rw [hsh.out, if_neg h2]) hbw.out)
    clear h2 herr hret hsh
    go_wp2_with fail
    exact hend.out
  case pos =>
  subst h2
  obtain ⟨F, hF⟩ : ∃ F, Hid (Sto.lies dev rs T = F) := ⟨_, rfl⟩
  have hs2 : Hid (Sto.shownL s rs dev f = (T, F, 0)) := by show _ = _; rw [hsh.out, if_pos rfl, hF.out]
  have hfin : Hid (∀ la ln lc W, ES (fun _ => True) W la ln lc F → Below w3.heap.size w3 W → X (.returned (.tuple #[.slice ta tn tc, .slice la ln lc, .int .i64 0])) W) := fun la ln lc W h1 h2 => hret.out T F 0 ta tn tc la ln lc W hs2.out (hES'.out.below h2) h1 (hbw.out.trans (h2.mono hbw.out.size))
  clear hsh hs2 hret herr
  go_wp2_with fail
  go_loopw [11, 12] (fun sl i wr => ∃ (k : Nat) (L : List Ent) (xa : Option Addr) (xn xc : Nat), k ≤ rn ∧ i = .int .i64 (k : Int) ∧ sl = .slice xa xn xc ∧ Hid (ES (fun _ => True) wr xa xn xc L) ∧ Hid (Sto.lies dev (rs.drop k) L = F) ∧ Hid (BdL k L) ∧ Hid (Below w3.heap.size w3 wr)) (fun _ i _ => rn - (intOf i).toNat)
  case atStart => exact ⟨0, T, ta, tn, tc, Nat.zero_le _, rfl, rfl, hES', hF, hTb, Below.refl _ _⟩
  case round =>
    clear hES' hF hTb
    obtain ⟨k, L, xa, xn, xc, hk, rfl, rfl, hE, hl, hbdk, hbr⟩ := hrel
    generalize wr = wq at *
    have d3 := (hB.out.below hbr.out hB.out.lt).at_ (i := 3) rfl
    by_cases hlt : k < rn
    · obtain ⟨x, hx⟩ : ∃ x, rs[k]? = some x := ⟨_, List.getElem?_eq_getElem (by omega)⟩
      have hl' := Sto.lies_at hl.out hx
      have hxo := hok.out k x hx
      have hbq : Below w.heap.size w wq := hbw.out.trans (hbr.out.mono hbw.out.size)
      obtain ⟨b, off, rfl, hbl, e0, e1, e2⟩ := (HR'.out.below hbq).at hx
      have k0 : (0 : Int) ≤ (k : Int) := by omega
      have k1 : (k : Int) < (rn : Int) := by omega
      by_cases hd : x.dev = dev
      · rw [if_pos hd] at hl'
        have hlie : Hid (Calls Tryz.prog 86 #[.slice xa xn xc, .agg #[.int .i64 x.dev, .int .i64 x.kind, .int .i64 x.n]] wq (LieR (Sto.lie x.kind x.n L) wq)) := r31lie_any xa xn xc L x hxo wq hE.out (by have := hbdk.out.len; omega) (fun e he => by have := hbdk.out.data e he; omega)
        have hb2 : Hid (BdL (k + 1) (Sto.lie x.kind x.n L)) := Sto.lie_bd hbdk.out x.kind x.n
        have p1 : (x.dev == dev) = true := by simpa using hd
        have p2 : decide (x.dev = dev) = true := decide_eq_true hd
        have hl2 := Lib.hid hl'
        have hbr2 := Lib.hid hbr.out
        generalize Sto.lie x.kind x.n L = L2 at *
        clear hd hl' hl hx hxo hE hbdk hbq
        go_wp2_with fail
        refine hlie.out.mono ?_
        rintro e w4 ⟨ya, yc, rfl, hY, hz⟩
        obtain ⟨yn, hyn⟩ : ∃ n, L2.length = n := ⟨_, rfl⟩
        rw [hyn] at hY ⊢
        have hY' := Lib.hid hY
        have hb4 := Lib.hid (hbr2.out.trans (hz.mono hbr2.out.size))
        clear hz hY hyn hlie e0 e1 e2 d3 p1 p2
        go_wp2_with fail
        go_roundw
        case rel => exact ⟨k + 1, L2, ya, yn, yc, by omega, by go_num, rfl, hY', hl2, hb2, hb4⟩
        case measure => simp [intOf]; omega
      · rw [if_neg hd] at hl'
        have p1 : (x.dev == dev) = false := by simpa using hd
        have p2 : decide (x.dev = dev) = false := decide_eq_false hd
        have hl2 := Lib.hid hl'
        have hb2 : Hid (BdL (k + 1) L) := hbdk.out.mono (by omega)
        clear hd hl' hl hx hxo hbdk hbq
        go_wp2_with fail
        go_roundw
        case rel => exact ⟨k + 1, L, xa, xn, xc, by omega, by go_num, rfl, hE, hl2, hb2, hbr⟩
        case measure => simp [intOf]; omega
    · obtain rfl : rn = k := by omega
      have hLF : L = F := by
        have := hl.out
        rw [List.drop_eq_nil_of_le (by omega)] at this
        exact this
      have hend := Lib.hid (hfin.out xa xn xc wq (by rw [← hLF]; exact hE.out) hbr.out)
      clear hLF hl hE hbdk hfin hlt
      go_wp2_with fail
      exact hend.out
end Go.Proofs.YtnonfdcbnkdmcaaGreatDoor
namespace Go.Proofs.YtnonfdcbnkdmcaaGreatDoor
open Go.RowKit Go.Mem Go.Shelf
open Go.Sto (Ent St Rul BdL)

set_option maxRecDepth 20000 in
set_option maxHeartbeats 4000000 in
theorem r31honest_any (a : Option Addr) (n c : Nat) (s : St) (ra : Option Addr) (rn rc : Nat) (rs : List Rul) (dev f : Int) (w : World) (H : SV (fun _ => True) w a n c s) (HR : RuS w ra rn rc rs) (hbd : BdL 0 (Sto.ents s f)) :
    Calls Tryz.prog 16 #[.agg (liC s a n c ra rn rc).toArray, .int .i64 dev, .int .i64 f] w (BIPost (Sto.honestL s rs dev f) w) := by
  obtain ⟨sb, hsb⟩ : ∃ sb, Hid (w.heap.size = sb) := ⟨_, rfl⟩
  obtain ⟨W1, hW1⟩ : ∃ W1, W1 = w.alloc (.cells #[.int .i64 s.id, .int .i64 s.priv, .slice a n c, .slice ra rn rc] 27) := ⟨_, rfl⟩
  have hB : Hid (Blk W1 sb 27 (liC s a n c ra rn rc)) := by rw [hW1, ← hsb.out]; exact Blk.new w _ (liC s a n c ra rn rc)
  have hbw : Hid (Below w.heap.size w W1) := by rw [hW1]; exact (Below.refl _ w).alloc (Nat.le_refl _) _
  have hsh : Hid (Calls Tryz.prog 39 #[.agg #[.int .i64 s.id, .int .i64 s.priv, .slice a n c, .slice ra rn rc], .int .i64 dev, .int .i64 f] W1 (RshPost (Sto.shownL s rs dev f) W1)) := r31shown_any a n c s ra rn rc rs dev f W1 (H.below hbw.out) (HR.below hbw.out) hbd
  unfold liC
  obtain ⟨X, hXX⟩ : ∃ X, Hid (X = BIPost (Sto.honestL s rs dev f) w) := ⟨_, rfl⟩
  rw [← hXX.out]
  have hret : Hid (∀ p W, Sto.honestL s rs dev f = p → Below w.heap.size w W → X (.returned (.tuple #[.bool p.1, .int .i64 p.2])) W) := fun p W e h => by rw [hXX.out, e]; exact ⟨rfl, h⟩
  clear hXX H HR hbd
  unfold Sto.honestL at hret
  obtain ⟨P, hP⟩ : ∃ x, Hid (Sto.shownL s rs dev f = x) := ⟨_, rfl⟩
  rw [hP.out] at hret hsh
  clear hP
  obtain ⟨T, L, q⟩ := P
  simp only [] at hret
  go_enter Tryz.func16, Tryz.ntmps16
  go_upto_region 1 with fail
  rw [hsb.out]
  generalize hWq : w.alloc _ = Wq
  obtain rfl : W1 = Wq := by rw [← hWq, hW1]
  clear hWq hW1
  have c0 := hB.out.at_ (i := 0) rfl
  have c1 := hB.out.at_ (i := 1) rfl
  have c2 := hB.out.at_ (i := 2) rfl
  have c3 := hB.out.at_ (i := 3) rfl
  go_wp2_with fail
  refine hsh.out.mono ?_
  rintro e w2 ⟨ta, tn, tc, la, ln, lc, rfl, hT, hL, hz⟩
  simp only [] at hT hL ⊢
  have hT' := Lib.hid hT; have hL' := Lib.hid hL
  replace hbw := Lib.hid (hbw.out.trans (hz.mono hbw.out.size))
  clear hT hL hz hsh c0 c1 c2 c3 hB
  by_cases h0 : q = 0
  · subst h0
    have hsm := Lib.hid (r30same_any _ _ ta tn tc T la ln lc L w2 hT'.out hL'.out)
    have hret2 : Hid (∀ W, Below w.heap.size w W → X (.returned (.tuple #[.bool (Sto.sameL T L), .int .i64 0])) W) := fun W h => hret.out (Sto.sameL T L, 0) W (by simp) h
    generalize Sto.sameL T L = V at *
    clear hret
    go_wp2_with fail
    refine hsm.out.mono ?_
    rintro e w3 ⟨rfl, hz⟩
    have hend := Lib.hid (hret2.out w3 (hbw.out.trans (hz.mono hbw.out.size)))
    clear hz hsm hret2
    go_wp2_with fail
    exact hend.out
  · have g0 : (q != 0) = true := by simpa using h0
    have hend := Lib.hid (hret.out (false, q) w2 (by rw [decide_eq_false h0, Bool.false_and]) hbw.out)
    clear h0 hret
    go_wp2_with fail
    exact hend.out

theorem apartE_step {a b : List Ent} {k : Nat} {x y : Ent} (hx : a[k]? = some x) (hy : b[k]? = some y) : Sto.apartE (a.drop k) (b.drop k) = if x.dig = y.dig then Sto.apartE (a.drop (k + 1)) (b.drop (k + 1)) else true := by
  have hk := (List.getElem?_eq_some_iff.1 hx).1
  have hj := (List.getElem?_eq_some_iff.1 hy).1
  rw [List.drop_eq_getElem_cons hk, List.drop_eq_getElem_cons hj, (List.getElem?_eq_some_iff.1 hx).2, (List.getElem?_eq_some_iff.1 hy).2]
  rfl
theorem apartE_end {a b : List Ent} {k : Nat} (h : a.length ≤ k ∨ b.length ≤ k) : Sto.apartE (a.drop k) (b.drop k) = false := by
  rcases h with h | h
  · rw [List.drop_eq_nil_of_le h]; rfl
  · rw [List.drop_eq_nil_of_le h]
    cases a.drop k <;> rfl

set_option maxRecDepth 20000 in
set_option maxHeartbeats 16000000 in
theorem r31apart_any (a : Option Addr) (n c : Nat) (s : St) (ra : Option Addr) (rn rc : Nat) (rs : List Rul) (dv dw f : Int) (w : World) (H : SV (fun _ => True) w a n c s) (HR : RuS w ra rn rc rs) (hbd : BdL 0 (Sto.ents s f)) :
    Calls Tryz.prog 18 #[.agg (liC s a n c ra rn rc).toArray, .int .i64 dv, .int .i64 dw, .int .i64 f] w (BIPost (Sto.apartL s rs dv dw f) w) := by
  obtain ⟨sb, hsb⟩ : ∃ sb, Hid (w.heap.size = sb) := ⟨_, rfl⟩
  obtain ⟨W1, hW1⟩ : ∃ W1, W1 = w.alloc (.cells #[.int .i64 s.id, .int .i64 s.priv, .slice a n c, .slice ra rn rc] 27) := ⟨_, rfl⟩
  have hB : Hid (Blk W1 sb 27 (liC s a n c ra rn rc)) := by rw [hW1, ← hsb.out]; exact Blk.new w _ (liC s a n c ra rn rc)
  have hbw : Hid (Below w.heap.size w W1) := by rw [hW1]; exact (Below.refl _ w).alloc (Nat.le_refl _) _
  have hs1 : Hid (∀ W, Below w.heap.size w W → Calls Tryz.prog 39 #[.agg #[.int .i64 s.id, .int .i64 s.priv, .slice a n c, .slice ra rn rc], .int .i64 dv, .int .i64 f] W (RshPost (Sto.shownL s rs dv f) W)) := fun W hW => r31shown_any a n c s ra rn rc rs dv f W (H.below hW) (HR.below hW) hbd
  have hs2 : Hid (∀ W, Below w.heap.size w W → Calls Tryz.prog 39 #[.agg #[.int .i64 s.id, .int .i64 s.priv, .slice a n c, .slice ra rn rc], .int .i64 dw, .int .i64 f] W (RshPost (Sto.shownL s rs dw f) W)) := fun W hW => r31shown_any a n c s ra rn rc rs dw f W (H.below hW) (HR.below hW) hbd
  unfold liC
  obtain ⟨X, hXX⟩ : ∃ X, Hid (X = BIPost (Sto.apartL s rs dv dw f) w) := ⟨_, rfl⟩
  rw [← hXX.out]
  have hret : Hid (∀ p W, Sto.apartL s rs dv dw f = p → Below w.heap.size w W → X (.returned (.tuple #[.bool p.1, .int .i64 p.2])) W) := fun p W e h => by rw [hXX.out, e]; exact ⟨rfl, h⟩
  clear hXX H HR hbd
  unfold Sto.apartL at hret
  obtain ⟨P, hP⟩ : ∃ x, Hid (Sto.shownL s rs dv f = x) := ⟨_, rfl⟩
  obtain ⟨Q, hQ⟩ : ∃ x, Hid (Sto.shownL s rs dw f = x) := ⟨_, rfl⟩
  rw [hP.out, hQ.out] at hret
  rw [hP.out] at hs1
  rw [hQ.out] at hs2
  clear hP hQ
  obtain ⟨T, L, q⟩ := P
  obtain ⟨T2, M, q2⟩ := Q
  simp only [] at hret
  go_enter Tryz.func18, Tryz.ntmps18
  go_upto_region 1 with fail
  rw [hsb.out]
  generalize hWq : w.alloc _ = Wq
  obtain rfl : W1 = Wq := by rw [← hWq, hW1]
  clear hWq hW1
  have c0 := hB.out.at_ (i := 0) rfl
  have c1 := hB.out.at_ (i := 1) rfl
  have c2 := hB.out.at_ (i := 2) rfl
  have c3 := hB.out.at_ (i := 3) rfl
  go_wp2_with fail
  refine (hs1.out _ hbw.out).mono ?_
  rintro e w2 ⟨ta, tn, tc, la, ln, lc, rfl, hT, hL, hz⟩
  simp only [] at hL ⊢
  have hL' := Lib.hid hL
  replace hB := Lib.hid (hB.out.below hz hB.out.lt)
  replace hbw := Lib.hid (hbw.out.trans (hz.mono hbw.out.size))
  clear hT hL hz hs1 c0 c1 c2 c3
  by_cases h0 : q = 0
  case neg =>
    have g0 : (q != 0) = true := by simpa using h0
    have hend := Lib.hid (hret.out (false, q) w2 (by rw [if_neg h0]) hbw.out)
    clear h0 hret
    go_wp2_with fail
    exact hend.out
  case pos =>
  subst h0
  have c0 := hB.out.at_ (i := 0) rfl
  have c1 := hB.out.at_ (i := 1) rfl
  have c2 := hB.out.at_ (i := 2) rfl
  have c3 := hB.out.at_ (i := 3) rfl
  go_wp2_with fail
  refine (hs2.out _ hbw.out).mono ?_
  rintro e w3 ⟨ta2, tn2, tc2, ma, mn, mc, rfl, hT, hM, hz⟩
  simp only [] at hM ⊢
  have hM' := Lib.hid hM
  replace hL' := Lib.hid (hL'.out.below hz)
  replace hbw := Lib.hid (hbw.out.trans (hz.mono hbw.out.size))
  clear hT hM hz hs2 c0 c1 c2 c3 hB
  by_cases h0 : q2 = 0
  case neg =>
    have g0 : (q2 != 0) = true := by simpa using h0
    have hend := Lib.hid (hret.out (false, q2) w3 (by rw [if_pos trivial, if_neg h0]) hbw.out)
    clear h0 hret
    go_wp2_with fail
    exact hend.out
  case pos =>
  subst h0
  obtain ⟨V, hV⟩ : ∃ x, Hid (Sto.apartE L M = x) := ⟨_, rfl⟩
  have hret2 : Hid (∀ v W, V = v → Below w.heap.size w W → X (.returned (.tuple #[.bool v, .int .i64 0])) W) := fun v W e h => hret.out (v, 0) W (by simp only [if_true]; rw [hV.out, e]) h
  have hll := hL'.out.rs.len
  have hml := hM'.out.rs.len
  have hlb := hL'.out.bd
  have hmb := hM'.out.bd
  have l63 : (ln : Int) ≤ 100000 := by omega
  have m63 : (mn : Int) ≤ 100000 := by omega
  have hll' := Lib.hid hll; have hml' := Lib.hid hml
  clear hret hll hml hlb hmb
  go_wp2_with fail
  go_loopw [15] (fun i wr => ∃ k : Nat, k ≤ ln ∧ k ≤ mn ∧ i = .int .i64 (k : Int) ∧ Hid (Below w3.heap.size w3 wr) ∧ Hid (Sto.apartE (L.drop k) (M.drop k) = V)) (fun i _ => ln - (intOf i).toNat)
  case atStart => exact ⟨0, Nat.zero_le _, Nat.zero_le _, rfl, Below.refl _ _, hV⟩
  case round =>
    clear hV
    obtain ⟨k, hk1, hk2, rfl, hbr, hV⟩ := hrel
    generalize wr = wq at *
    have k0 : (0 : Int) ≤ (k : Int) := by omega
    by_cases hlt : k < ln
    case neg =>
      have p1 : decide ((k : Int) < (ln : Int)) = false := decide_eq_false (by omega)
      have hend := Lib.hid (hret2.out false wq (by rw [← hV.out]; exact apartE_end (.inl (by have := hll'.out; omega))) (hbw.out.trans (hbr.out.mono hbw.out.size)))
      clear hret2 hV
      go_wp2_with fail
      exact hend.out
    case pos =>
    have p1 : decide ((k : Int) < (ln : Int)) = true := decide_eq_true (by omega)
    by_cases hlt2 : k < mn
    case neg =>
      have p2 : decide ((k : Int) < (mn : Int)) = false := decide_eq_false (by omega)
      have hend := Lib.hid (hret2.out false wq (by rw [← hV.out]; exact apartE_end (.inr (by have := hml'.out; omega))) (hbw.out.trans (hbr.out.mono hbw.out.size)))
      clear hret2 hV
      go_wp2_with fail
      exact hend.out
    case pos =>
    have p2 : decide ((k : Int) < (mn : Int)) = true := decide_eq_true (by omega)
    obtain ⟨x, hx⟩ : ∃ x, L[k]? = some x := ⟨_, List.getElem?_eq_getElem (by have := hll'.out; omega)⟩
    obtain ⟨y, hy⟩ : ∃ y, M[k]? = some y := ⟨_, List.getElem?_eq_getElem (by have := hml'.out; omega)⟩
    have hV' := hV.out
    rw [apartE_step hx hy] at hV'
    obtain ⟨b1, o1, r1, rfl, hb1, _, ⟨ho, da1, dn1, dc1, er1, hbk1⟩, hrl1, hrg1⟩ := hL'.out.rs.get hx
    obtain ⟨b2, o2, r2, rfl, hb2, _, ⟨hp, da2, dn2, dc2, er2, hbk2⟩, hrl2, hrg2⟩ := hM'.out.rs.get hy
    subst er1 er2
    have q1 := (EntR.of hrg1 ho.dig).dig
    have q2 := (EntR.of hrg2 hp.dig).dig
    have d1 : Hid (∀ wz, Below w3.heap.size w3 wz → wz.rangeAt b1 (o1 + k * 35 + 1) (bv x.dig)) := fun wz hb j v hv => (hb.cell (p := ⟨b1, _, none⟩) hb1).trans (q1 j v hv)
    have d2 : Hid (∀ wz, Below w3.heap.size w3 wz → wz.rangeAt b2 (o2 + k * 35 + 1) (bv y.dig)) := fun wz hb j v hv => (hb.cell (p := ⟨b2, _, none⟩) hb2).trans (q2 j v hv)
    have hdi : Hid ((Tryz.prog.info? 32).map (·.size) = some (bv x.dig).length) := by show _ = _; rw [bv_length, ho.dig]; exact size35
    have hdj : Hid ((Tryz.prog.info? 32).map (·.size) = some (bv y.dig).length) := by show _ = _; rw [bv_length, hp.dig]; exact size35
    have heq := Lib.hid (fun W => eq_dig (x := x.dig) (y := y.dig) ⟨ho.dig, ho.lt⟩ ⟨hp.dig, hp.lt⟩ W)
    obtain ⟨xd, hxd⟩ : ∃ z, x.dig = z := ⟨_, rfl⟩
    obtain ⟨yd, hyd⟩ : ∃ z, y.dig = z := ⟨_, rfl⟩
    rw [hxd] at d1 hdi heq hV'
    rw [hyd] at d2 hdj heq hV'
    obtain ⟨rD, hrD⟩ : ∃ r, bv xd = r := ⟨_, rfl⟩
    obtain ⟨rE, hrE⟩ : ∃ r, bv yd = r := ⟨_, rfl⟩
    rw [hrD] at d1 hdi heq
    rw [hrE] at d2 hdj heq
    have hVh := Lib.hid hV'
    clear q1 q2 hrg1 hrg2 hrl1 hrl2 ho hp hx hy hV hV' hxd hyd hrD hrE hbk1 hbk2
    go_wp2_with fail
    refine wp_region_held_drew (S := fun wz => Below w3.heap.size w3 wz) (by kernel_rfl) (hbr.out.trans ((Below.refl _ wq).drew.mono hbr.out.size)) (fun hHeld => ?_)
    generalize wq.drew = Wd at *
    refine wpAnyH_take (i := 0) (oi := { dst := some 50, op := Op.move (Operand.tmp 11), type := 30, pos := "ref.go:111", after := #[], guard := none }) (v := ?_) rfl (by kernel_rfl) (by kernel_rfl) (by kernel_rfl) (fun _ _ _ h => h) (Or.inl ⟨by rfl, ?_⟩) hHeld ?_
    rotate_left
    · intro wz hSw
      go_simp
      all_goals (with_reducible rfl)
    try simp only [Act.put, List.setIfInBounds_toArray, List.set_cons_zero, List.set_cons_succ]
    refine wpAnyH_take (i := 1) (oi := { dst := some 51, op := Op.move (Operand.tmp 15), type := 3, pos := "ref.go:111", after := #[], guard := none }) (v := ?_) rfl (by kernel_rfl) (by kernel_rfl) (by kernel_rfl) (fun _ _ _ h => h) (Or.inl ⟨by rfl, ?_⟩) hHeld ?_
    rotate_left
    · intro wz hSw
      go_simp
      all_goals (with_reducible rfl)
    try simp only [Act.put, List.setIfInBounds_toArray, List.set_cons_zero, List.set_cons_succ]
    refine wpAnyH_take (i := 2) (oi := { dst := some 52, op := Op.indexAddr 30 (Operand.tmp 50) (Operand.tmp 51), type := 0, pos := "ref.go:111", after := #[{ on := 0, ground := Ground.data }, { on := 1, ground := Ground.data }], guard := none }) (v := ?_) rfl (by kernel_rfl) (by kernel_rfl) (by kernel_rfl) (fun _ _ _ h => h) (Or.inl ⟨by rfl, ?_⟩) hHeld ?_
    rotate_left
    · intro wz hSw
      go_simp
      all_goals (with_reducible rfl)
    try simp only [Act.put, List.setIfInBounds_toArray, List.set_cons_zero, List.set_cons_succ]
    refine wpAnyH_take (i := 3) (oi := { dst := some 53, op := Op.fieldAddr 75 (Operand.tmp 52) 1, type := 0, pos := "ref.go:111", after := #[{ on := 2, ground := Ground.data }], guard := none }) (v := ?_) rfl (by kernel_rfl) (by kernel_rfl) (by kernel_rfl) (fun _ _ _ h => h) (Or.inl ⟨by rfl, ?_⟩) hHeld ?_
    rotate_left
    · intro wz hSw
      go_simp
      all_goals (with_reducible rfl)
    try simp only [Act.put, List.setIfInBounds_toArray, List.set_cons_zero, List.set_cons_succ]
    refine wpAnyH_take (i := 4) (oi := { dst := some 54, op := Op.load 32 (Operand.tmp 53), type := 32, pos := "ref.go:111", after := #[{ on := 3, ground := Ground.data }], guard := none }) rfl (by kernel_rfl) (by kernel_rfl) (by kernel_rfl) (fun _ _ _ h => h) (yieldsIf_load_mid (by rfl) _ _ rfl b1 (o1 + k * 35 + 1) rfl (rD) _ (fun wz h => d1.out wz h) Tryz.underlying32 rfl (hdi.out)) hHeld ?_
    try simp only [Act.put, List.setIfInBounds_toArray, List.set_cons_zero, List.set_cons_succ]
    refine wpAnyH_take (i := 5) (oi := { dst := some 55, op := Op.move (Operand.tmp 14), type := 30, pos := "ref.go:111", after := #[], guard := none }) (v := ?_) rfl (by kernel_rfl) (by kernel_rfl) (by kernel_rfl) (fun _ _ _ h => h) (Or.inl ⟨by rfl, ?_⟩) hHeld ?_
    rotate_left
    · intro wz hSw
      go_simp
      all_goals (with_reducible rfl)
    try simp only [Act.put, List.setIfInBounds_toArray, List.set_cons_zero, List.set_cons_succ]
    refine wpAnyH_take (i := 6) (oi := { dst := some 56, op := Op.move (Operand.tmp 15), type := 3, pos := "ref.go:111", after := #[], guard := none }) (v := ?_) rfl (by kernel_rfl) (by kernel_rfl) (by kernel_rfl) (fun _ _ _ h => h) (Or.inl ⟨by rfl, ?_⟩) hHeld ?_
    rotate_left
    · intro wz hSw
      go_simp
      all_goals (with_reducible rfl)
    try simp only [Act.put, List.setIfInBounds_toArray, List.set_cons_zero, List.set_cons_succ]
    refine wpAnyH_take (i := 7) (oi := { dst := some 57, op := Op.indexAddr 30 (Operand.tmp 55) (Operand.tmp 56), type := 0, pos := "ref.go:111", after := #[{ on := 5, ground := Ground.data }, { on := 6, ground := Ground.data }], guard := none }) (v := ?_) rfl (by kernel_rfl) (by kernel_rfl) (by kernel_rfl) (fun _ _ _ h => h) (Or.inl ⟨by rfl, ?_⟩) hHeld ?_
    rotate_left
    · intro wz hSw
      go_simp
      all_goals (with_reducible rfl)
    try simp only [Act.put, List.setIfInBounds_toArray, List.set_cons_zero, List.set_cons_succ]
    refine wpAnyH_take (i := 8) (oi := { dst := some 58, op := Op.fieldAddr 75 (Operand.tmp 57) 1, type := 0, pos := "ref.go:111", after := #[{ on := 7, ground := Ground.data }], guard := none }) (v := ?_) rfl (by kernel_rfl) (by kernel_rfl) (by kernel_rfl) (fun _ _ _ h => h) (Or.inl ⟨by rfl, ?_⟩) hHeld ?_
    rotate_left
    · intro wz hSw
      go_simp
      all_goals (with_reducible rfl)
    try simp only [Act.put, List.setIfInBounds_toArray, List.set_cons_zero, List.set_cons_succ]
    refine wpAnyH_take (i := 9) (oi := { dst := some 59, op := Op.load 32 (Operand.tmp 58), type := 32, pos := "ref.go:111", after := #[{ on := 8, ground := Ground.data }], guard := none }) rfl (by kernel_rfl) (by kernel_rfl) (by kernel_rfl) (fun _ _ _ h => h) (yieldsIf_load_mid (by rfl) _ _ rfl b2 (o2 + k * 35 + 1) rfl (rE) _ (fun wz h => d2.out wz h) Tryz.underlying32 rfl (hdj.out)) hHeld ?_
    try simp only [Act.put, List.setIfInBounds_toArray, List.set_cons_zero, List.set_cons_succ]
    by_cases hde : xd = yd
    case pos =>
      have hV2 : Hid (Sto.apartE (L.drop (k + 1)) (M.drop (k + 1)) = V) := by show _ = _; rw [← hVh.out, if_pos hde]
      have heq2 : Hid (∀ W, (Op.equalIn 10000 32 (.agg rD.toArray) (.agg rE.toArray)).run Tryz.prog W = .ok true W) := fun W => by rw [heq.out W, decide_eq_true hde]
      clear hVh hde heq
      refine wpAnyH_take (i := 10) (oi := { dst := some 60, op := Op.binOp BinOp.neq 32 (Operand.tmp 54) (Operand.tmp 59) 32, type := 4, pos := "ref.go:111", after := #[{ on := 4, ground := Ground.data }, { on := 9, ground := Ground.data }], guard := none }) (v := ?_) rfl (by kernel_rfl) (by kernel_rfl) (by kernel_rfl) (fun _ _ _ h => h) (Or.inl ⟨by rfl, ?_⟩) hHeld ?_
      rotate_left
      · intro wz hSw
        have q0 := heq2.out
        go_simp
        all_goals (with_reducible rfl)
      try simp only [Act.put, List.setIfInBounds_toArray, List.set_cons_zero, List.set_cons_succ]
      refine wpAnyH_done (by kernel_rfl) ?_ _
      have hb9 := Lib.hid hHeld
      clear hHeld
      go_wp2_with fail
      go_roundw
      case rel => exact ⟨k + 1, by omega, by omega, by go_num, hb9, hV2⟩
      case measure => simp [intOf]; omega
    case neg =>
      have hVt : V = true := by rw [← hVh.out, if_neg hde]
      have heq2 : Hid (∀ W, (Op.equalIn 10000 32 (.agg rD.toArray) (.agg rE.toArray)).run Tryz.prog W = .ok false W) := fun W => by rw [heq.out W, decide_eq_false hde]
      clear hVh hde heq
      refine wpAnyH_take (i := 10) (oi := { dst := some 60, op := Op.binOp BinOp.neq 32 (Operand.tmp 54) (Operand.tmp 59) 32, type := 4, pos := "ref.go:111", after := #[{ on := 4, ground := Ground.data }, { on := 9, ground := Ground.data }], guard := none }) (v := ?_) rfl (by kernel_rfl) (by kernel_rfl) (by kernel_rfl) (fun _ _ _ h => h) (Or.inl ⟨by rfl, ?_⟩) hHeld ?_
      rotate_left
      · intro wz hSw
        have q0 := heq2.out
        go_simp
        all_goals (with_reducible rfl)
      try simp only [Act.put, List.setIfInBounds_toArray, List.set_cons_zero, List.set_cons_succ]
      refine wpAnyH_done (by kernel_rfl) ?_ _
      have hend := Lib.hid (hret2.out true _ hVt (hbw.out.trans (hHeld.mono hbw.out.size)))
      clear hHeld hret2 hVt
      go_wp2_with fail
      exact hend.out
end Go.Proofs.YtnonfdcbnkdmcaaGreatDoor
