/- the reference's Same and SameEntries, of equal values -/
import Derived.Test.YtgfmdjagamjpbaaDoorFin
import Derived.Test.YtgfmdjagamjpbaaDoorLog
import Derived.Laws.BytesArg
import Derived.Laws.BytesString
import Derived.BigQuiet
namespace Go
theorem quiet_load_mid {P : Program} {o : Oper} {a : Act} {w : World} {K : Act → Prop} (ty : TypeId) (x : Operand) (ho : o.op = .load ty x) (b off : Nat) (hx : a.eval x = .pointer (some ⟨b, off, none⟩)) (cs : List Value) (d : TypeDesc) (hc : w.rangeAt b off cs)
    (hu : P.underlying ty = some d) (hd : d.isRow = true) (hi : (P.info? ty).map (·.size) = some cs.length) (h : K (a.put o.dst (.agg cs.toArray))) : o.quiet P a (fun w' => ∃ m, w' = w.drewN m) K := by
  refine ⟨_, ?_, h⟩
  rintro w' ⟨m, rfl⟩
  unfold Oper.quietAt execOp
  simp only [ho, hx, Instr.loadAt, Instr.sureAddr, Sem.run_bind, Sem.run_pure, Result.andThen_ok, run_loadVar_mid (w.drewN m) b off ty cs d hc hu hd hi]
  exact ⟨rfl, rfl⟩
end Go
namespace Go.Proofs.YtgfmdjagamjpbaaDoor
open Go.RowKit Go.Mem
open Go.Sto (Ent Lg St)

theorem below_drewQ {B : Nat} {w w' : World} (h : Below B w w') (n : Nat) : Below B w (w'.drewN n) := ⟨h.os, h.tape, h.output, h.size, h.block⟩
/-- bytes as a text. -/
def txtB (l : List Nat) : ByteArray := strOfNums (l.map fun (x : Nat) => (x : Int))
theorem bs_text {W : World} {a : Option Addr} {n c : Nat} {l : List Nat} (h : BW W a n c l) :
    (convert 46 9 (.slice a n c)).run Tryd.prog W = .ok (.string (txtB l)) W := by
  rcases h with h | ⟨rfl, _, rfl, _⟩
  case inr =>
    rw [run_convert_bytes_string W 46 9 5 _ 0 c Tryd.underlying46 Tryd.underlying5 Tryd.underlying9]
    cases a <;> simp [Conv.bytesToString, loadCells]
    all_goals rfl
  cases a with
  | none =>
    obtain ⟨rfl, rfl⟩ := h.nil rfl
    obtain rfl : l = [] := List.eq_nil_of_length_eq_zero h.len
    exact run_convert_bytes_nil (P := Tryd.prog) W 46 5 Tryd.underlying46 Tryd.underlying5 0 0 9 Tryd.underlying9
  | some ad =>
    obtain ⟨b, off, rfl, _, hx⟩ := h.cells ad rfl
    exact run_convert_bytes_arg (P := Tryd.prog) W 46 5 Tryd.underlying46 Tryd.underlying5 b off n c (l.map fun (x : Nat) => (x : Int)) (by simp [h.len]) (fun i hi => by
      have hi' : i < l.length := by rw [h.len]; exact hi
      rw [hx i l[i] (List.getElem?_eq_getElem hi')]
      simp [List.getD, List.getElem?_eq_getElem hi']) 9 Tryd.underlying9

/-- an entry's row at any place. -/
structure EntR (w : World) (b o : Nat) (e : Ent) (a : Option Addr) (n c : Nat) : Prop where
  kind : w.cell? ⟨b, o, none⟩ = some (.int .i64 e.kind)
  dig : w.rangeAt b (o + 1) (bv e.dig)
  data : w.cell? ⟨b, o + 33, none⟩ = some (.slice a n c)
  gone : w.cell? ⟨b, o + 34, none⟩ = some (.bool e.gone)
theorem EntR.of {w : World} {b o : Nat} {e : Ent} {a : Option Addr} {n c : Nat} (h : w.rangeAt b o (entC e a n c)) (ho : e.dig.length = 32) : EntR w b o e a n c :=
  ⟨h 0 _ (entC_kind e a n c), fun j v hv => by
    have hj := (List.getElem?_eq_some_iff.1 hv).1
    rw [bv_length] at hj
    rw [bv_get (List.getElem?_eq_getElem hj)] at hv
    cases hv
    have := h _ _ (entC_dig (List.getElem?_eq_getElem hj) a n c)
    rw [show o + 1 + j = o + (j + 1) by omega]
    exact this, h _ _ (entC_data ho a n c), h _ _ (entC_gone ho a n c)⟩

set_option maxRecDepth 20000 in
set_option maxHeartbeats 2000000 in
theorem sameE_any (K1 K2 : Nat → Prop) (a1 a2 : Option Addr) (n c1 c2 : Nat) (l : List Ent) (w : World) (H1 : ES K1 w a1 n c1 l) (H2 : ES K2 w a2 n c2 l) :
    Calls Tryd.prog 20 #[.slice a1 n c1, .slice a2 n c2] w (fun e w' => e = .returned (.bool true) ∧ ∃ m, w' = w.drewN m) := by
  have H1' := Lib.hid H1; have H2' := Lib.hid H2
  have hbd := H1.bd
  have hlen := H1.rs.len
  clear H1 H2
  have hX : ∃ X, X = fun (e : Ending) (w' : World) => e = .returned (.bool true) ∧ ∃ m, w' = w.drewN m := ⟨_, rfl⟩
  obtain ⟨X, hX⟩ := hX
  have hfin : Hid (∀ W, (∃ m, W = w.drewN m) → X (.returned (.bool true)) W) := fun W h => by rw [hX]; exact ⟨rfl, h⟩
  rw [← hX]
  clear hX
  go_enter Tryd.func20, Tryd.ntmps20
  go_wp2
  go_loopw [5] (fun i wr => ∃ k : Nat, k ≤ n ∧ i = .int .i64 k ∧ Hid (∃ m, wr = w.drewN m)) (fun i _ => n - (intOf i).toNat)
  case atStart => exact ⟨0, Nat.zero_le _, rfl, 0, rfl⟩
  case round =>
    obtain ⟨k, hk, rfl, hbq⟩ := hrel
    have hb : Hid (Below w.heap.size w wr) := by obtain ⟨m, e⟩ := hbq.out; show Below _ _ _; rw [e]; exact below_drewQ (Below.refl _ w) m
    by_cases hlt : k < n
    · have hkl : k < l.length := by omega
      have he : l[k]? = some l[k] := List.getElem?_eq_getElem hkl
      generalize l[k] = e at *
      obtain ⟨b1, o1, r1, rfl, hb1, _, ⟨ho, da1, dn1, dc1, er1, hbk1⟩, hrl1, hrg1⟩ := (H1'.out.below hb.out).rs.get he
      obtain ⟨b2, o2, r2, rfl, hb2, _, ⟨_, da2, dn2, dc2, er2, hbk2⟩, hrl2, hrg2⟩ := (H2'.out.below hb.out).rs.get he
      have ho' := Lib.hid ho
      subst er1 er2
      have q1 := EntR.of hrg1 ho.dig
      have q2 := EntR.of hrg2 ho.dig
      have x1 := q1.kind
      have x2 := q1.data
      have x3 := q1.gone
      have y1 := q2.kind
      have y2 := q2.data
      have y3 := q2.gone
      have d1 := Lib.hid q1.dig
      have d2 := Lib.hid q2.dig
      have k0 : (0 : Int) ≤ (k : Int) := by omega
      have k1 : (k : Int) < (n : Int) := by omega
      have hdi : Hid ((Tryd.prog.info? 35).map (·.size) = some (bv e.dig).length) := by show _ = _; rw [bv_length, ho.dig]; exact size35
      have heq : ∀ W, (Op.equalIn 10000 35 (.agg (bv e.dig).toArray) (.agg (bv e.dig).toArray)).run Tryd.prog W = .ok true W := fun W => by
        have := eq_dig (x := e.dig) (y := e.dig) ⟨ho.dig, ho.lt⟩ ⟨ho.dig, ho.lt⟩ W
        rwa [decide_eq_true rfl] at this
      have hc1 : ∀ m, (convert 46 9 (.slice da1 dn1 dc1)).run Tryd.prog (wr.drewN m) = .ok (.string (txtB e.data)) (wr.drewN m) := fun m => bs_text (hbk1.bs.below (below_drewQ (Below.refl _ wr) m))
      have hc2 : ∀ m, (convert 46 9 (.slice da2 dn2 dc2)).run Tryd.prog (wr.drewN m) = .ok (.string (txtB e.data)) (wr.drewN m) := fun m => bs_text (hbk2.bs.below (below_drewQ (Below.refl _ wr) m))
      obtain ⟨ek, hek⟩ : ∃ ek, ek = e.kind := ⟨_, rfl⟩
      obtain ⟨eg, heg⟩ : ∃ eg, eg = e.gone := ⟨_, rfl⟩
      obtain ⟨ed, hed⟩ : ∃ ed, ed = e.data := ⟨_, rfl⟩
      obtain ⟨eD, heD⟩ : ∃ eD, eD = bv e.dig := ⟨_, rfl⟩
      rw [← hek] at x1 y1
      rw [← heg] at x3 y3
      rw [← hed] at hc1 hc2
      rw [← heD] at heq d1 d2 hdi
      clear q1 q2 hrg1 hrg2 hrl1 hrl2 hek heg hed heD ho ho' he hbk1 hbk2
      go_wp2
      refine wp_region_quiet_lit (by kernel_rfl) (by kernel_rfl) ?_
      repeat (first
        | go_big_quiet_step (fail)
        | (go_big_quiet_want
           refine quiet_load_mid 35 (.tmp 32) rfl b1 (o1 + k * 35 + 1) (by rfl) eD _ d1.out Tryd.underlying35 (by rfl) hdi.out ?_
           simp only [Act.put, List.setIfInBounds_toArray, List.set_cons_zero, List.set_cons_succ]
           go_big_quiet_on)
        | (go_big_quiet_want
           refine quiet_load_mid 35 (.tmp 37) rfl b2 (o2 + k * 35 + 1) (by rfl) eD _ d2.out Tryd.underlying35 (by rfl) hdi.out ?_
           simp only [Act.put, List.setIfInBounds_toArray, List.set_cons_zero, List.set_cons_succ]
           go_big_quiet_on))
      refine wpQuiet_nil ?_
      rintro _ ⟨nq, rfl⟩
      have hb3 : Hid (∃ m, wr.drewN nq = w.drewN m) := by obtain ⟨m, e⟩ := hbq.out; rw [e, World.drewN_drewN]; exact ⟨_, rfl⟩
      go_wp2
      exact ⟨⟨k + 1, by omega, by go_num, hb3⟩, by simp [intOf]; omega⟩
    · have hge : ¬ (k : Int) < (n : Int) := by omega
      go_wp2
      exact hfin.out _ hbq.out

/-- two slices of logs that read alike, row by row. -/
theorem LS.get {K : Nat → Prop} {w : World} {a : Option Addr} {n c : Nat} {l : List Lg} (h : LS K w a n c l) {k : Nat} {x : Lg} (he : l[k]? = some x) :
    ∃ b off ea en ec, a = some ⟨b, off, none⟩ ∧ I64 x.folder ∧ w.cell? ⟨b, off + k * 2, none⟩ = some (.int .i64 x.folder) ∧ w.cell? ⟨b, off + k * 2 + 1, none⟩ = some (.slice ea en ec) ∧ ES K w ea en ec x.es := by
  obtain ⟨b, off, r, e, _, _, ⟨hf, ea, en, ec, rfl, hE⟩, _, hr⟩ := h.rs.get he
  exact ⟨b, off, ea, en, ec, e, hf, hr 0 _ rfl, hr 1 _ rfl, hE⟩

structure SamW (w : World) (tb : Nat) (s : St) (a1 a2 : Option Addr) (n c1 c2 : Nat) (wz : World) : Prop where
  b1 : Blk wz tb 26 (stC s a1 n c1)
  b2 : Blk wz (tb + 1) 26 (stC s a2 n c2)
  bel : Below w.heap.size w wz

set_option maxRecDepth 20000 in
set_option maxHeartbeats 2000000 in
theorem same_any (K1 K2 : Nat → Prop) (a1 a2 : Option Addr) (n c1 c2 : Nat) (s : St) (w : World) (H1 : SV K1 w a1 n c1 s) (H2 : SV K2 w a2 n c2 s) :
    Calls Tryd.prog 17 #[.agg #[.int .i64 s.id, .int .i64 s.priv, .slice a1 n c1], .agg #[.int .i64 s.id, .int .i64 s.priv, .slice a2 n c2]] w (RetBo true w) := by
  have H1' := Lib.hid H1; have H2' := Lib.hid H2
  have hbd := H1.ls.bd
  have hlen := H1.ls.rs.len
  clear H1 H2
  obtain ⟨X, hX⟩ : ∃ X, X = RetBo true w := ⟨_, rfl⟩
  have hfin : Hid (∀ W, Below w.heap.size w W → X (.returned (.bool true)) W) := fun W h => by rw [hX]; exact ⟨rfl, h⟩
  rw [← hX]
  clear hX
  obtain ⟨tb, htb⟩ : ∃ tb, Hid (w.heap.size = tb) := ⟨_, rfl⟩
  obtain ⟨W1, hW1⟩ : ∃ W1, W1 = (w.alloc (.cells #[.int .i64 s.id, .int .i64 s.priv, .slice a1 n c1] 26)).alloc (.cells #[.int .i64 s.id, .int .i64 s.priv, .slice a2 n c2] 26) := ⟨_, rfl⟩
  have hS1 : Hid (SamW w tb s a1 a2 n c1 c2 W1) := by
    rw [hW1, ← htb.out]
    have h := Blk.new (w.alloc (.cells #[.int .i64 s.id, .int .i64 s.priv, .slice a1 n c1] 26)) 26 (stC s a2 n c2)
    have hz : (w.alloc (.cells #[.int .i64 s.id, .int .i64 s.priv, .slice a1 n c1] 26)).heap.size = w.heap.size + 1 := Array.size_push _
    rw [hz] at h
    exact ⟨(Blk.new w _ (stC s a1 n c1)).alloc _, h, ((Below.refl _ w).alloc (Nat.le_refl _) _).alloc (by simp) _⟩
  have c0 := hS1.out.b1.at_ (i := 0) rfl
  have c1' := hS1.out.b1.at_ (i := 1) rfl
  have c2' := hS1.out.b1.at_ (i := 2) rfl
  have e0 := hS1.out.b2.at_ (i := 0) rfl
  have e1' := hS1.out.b2.at_ (i := 1) rfl
  have e2' := hS1.out.b2.at_ (i := 2) rfl
  go_enter Tryd.func17, Tryd.ntmps17
  go_upto_region 1 with fail
  rw [htb.out]
  generalize hg : World.alloc (World.alloc w _) _ = Wg
  obtain rfl : W1 = Wg := by rw [← hg, hW1]
  clear hg hW1
  go_wp2
  clear c0 c1' c2' e0 e1' e2'
  go_loopw [5] (fun i wr => ∃ k : Nat, k ≤ n ∧ i = .int .i64 k ∧ Hid (SamW w tb s a1 a2 n c1 c2 wr)) (fun i _ => n - (intOf i).toNat)
  case atStart => exact ⟨0, Nat.zero_le _, rfl, hS1⟩
  case round =>
    obtain ⟨k, hk, rfl, hS⟩ := hrel
    clear hS1
    have c2' := hS.out.b1.at_ (i := 2) rfl
    have e2' := hS.out.b2.at_ (i := 2) rfl
    by_cases hlt : k < n
    · have hkl : k < s.logs.length := by omega
      have he : s.logs[k]? = some s.logs[k] := List.getElem?_eq_getElem hkl
      generalize s.logs[k] = x at *
      obtain ⟨b1, o1, ea1, en1, ec1, rfl, hf, x1, x2, hE1⟩ := (H1'.out.below hS.out.bel).ls.get he
      obtain ⟨b2, o2, ea2, en2, ec2, rfl, _, y1, y2, hE2⟩ := (H2'.out.below hS.out.bel).ls.get he
      have k0 : (0 : Int) ≤ (k : Int) := by omega
      have k1 : (k : Int) < (n : Int) := by omega
      have hel : en1 = en2 := by rw [← hE1.rs.len, ← hE2.rs.len]
      subst hel
      have hsm : Hid (∀ m, Calls Tryd.prog 20 #[.slice ea1 en1 ec1, .slice ea2 en1 ec2] (wr.drewN m) (fun e w' => e = .returned (.bool true) ∧ ∃ q, w' = (wr.drewN m).drewN q)) := fun m =>
        sameE_any K1 K2 ea1 ea2 en1 ec1 ec2 x.es _ (hE1.below (below_drewQ (Below.refl _ wr) m)) (hE2.below (below_drewQ (Below.refl _ wr) m))
      clear hE1 hE2
      go_wp2
      go_quiet ((go_at_call 20; exact Calls.quiet_of (hsm.out _)))
      have hS3 : Hid (SamW w tb s (some ⟨b1, o1, none⟩) (some ⟨b2, o2, none⟩) n c1 c2 (wr.drewN nq)) := ⟨hS.out.b1, hS.out.b2, below_drewQ hS.out.bel nq⟩
      go_wp2
      exact ⟨⟨k + 1, by omega, by go_num, hS3⟩, by simp [intOf]; omega⟩
    · have hge : ¬ (k : Int) < (n : Int) := by omega
      go_wp2
      exact hfin.out _ hS.out.bel
end Go.Proofs.YtgfmdjagamjpbaaDoor
