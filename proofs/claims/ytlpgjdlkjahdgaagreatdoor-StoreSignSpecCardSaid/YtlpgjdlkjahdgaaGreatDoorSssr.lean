/- StoreSignSpec: for every store and arguments the law returns true and its arguments read as before; the package variables digest.start and digest.numbers are as the program's text lays them (the tied card); no other condition. -/
import Derived.Test.YtlpgjdlkjahdgaaGreatDoorRsH
import Derived.Test.YtlpgjdlkjahdgaaGreatDoorSne
import Derived.Test.YtlpgjdlkjahdgaaGreatDoorOpf
import Derived.Test.YtlpgjdlkjahdgaaGreatDoorCards
import Derived.Test.YtlpgjdlkjahdgaaGreatDoorTie
import Derived.SevenTiedAt
import Derived.Deep.DeepHandedRow
import Derived.Deep.DeepWitnessRowRef
namespace Go.Proofs.YtlpgjdlkjahdgaaGreatDoor
open Go.RowKit Go.Mem
open Go.Sto (Ent Lg St)

/-- heads compared with themselves. -/
structure OkHC (st fo no R S : Int) (D : List Nat) : Prop where
  st : I64 st
  fo : I64 fo
  no : I64 no
  R : I64 R
  S : I64 S
  ch : Dig D
theorem cellsHd3 : Tryz.prog.cellsOf 47 = 37 := by kernel_rfl
theorem cellsSg3 : Tryz.prog.cellsOf 45 = 2 := by kernel_rfl
theorem cellsI3 : Tryz.prog.cellsOf 3 = 1 := by kernel_rfl
theorem keyTH3 : Tryz.prog.keyTypeAt 3 47 = true := by kernel_rfl
def litHC (st fo no R S : Int) (D : List Nat) : List Lit := [.int .i64 st, .int .i64 fo, .int .i64 no] ++ (digL D ++ [.int .i64 R, .int .i64 S])
theorem i64_wf3 {x : Int} (h : I64 x) : (Lit.int .i64 x).wf = true := by
  have e1 : IntKind.i64.min = -9223372036854775808 := rfl
  have e2 : IntKind.i64.max = 9223372036854775807 := rfl
  unfold I64 at h
  simp only [Lit.wf, Bool.and_eq_true, decide_eq_true_eq]
  omega
theorem keyLits_int3 (D : Nat) {x : Int} (h : I64 x) : Tryz.prog.keyLits (D + 1) 3 [.int .i64 x] = some [.int .i64 x] := by
  unfold Program.keyLits
  rw [Tryz.underlying3]
  simp [i64_wf3 h]
theorem keyLits_sig3 (D : Nat) {r s : Int} (hr : I64 r) (hs : I64 s) : Tryz.prog.keyLits (D + 2) 45 [.int .i64 r, .int .i64 s] = some [.int .i64 r, .int .i64 s] := by
  unfold Program.keyLits
  rw [Tryz.underlying45]
  simp only [cellsSg3, List.length_cons, List.length_nil]
  simp [cellsI3, keyLits_int3 D hr, keyLits_int3 D hs]
theorem headC_len3 {st fo no R S : Int} {D : List Nat} (ok : OkHC st fo no R S D) : (headC st fo no D R S).length = 37 := by simp [headC, bv_length, ok.ch.1]
theorem hdC_parts3 {st fo no R S : Int} {D : List Nat} (ok : OkHC st fo no R S D) : ((headC st fo no D R S).drop 0).take 1 = [.int .i64 st] ∧ ((headC st fo no D R S).drop 1).take 1 = [.int .i64 fo] ∧ ((headC st fo no D R S).drop 2).take 1 = [.int .i64 no] ∧ ((headC st fo no D R S).drop 3).take 32 = bv D ∧ ((headC st fo no D R S).drop 35).take 2 = [.int .i64 R, .int .i64 S] := by
  have hl : (bv D).length = 32 := by rw [bv_length, ok.ch.1]
  unfold headC
  refine ⟨rfl, rfl, rfl, ?_, ?_⟩
  · show List.take 32 (bv D ++ [.int .i64 R, .int .i64 S]) = _
    rw [List.take_append_of_le_length (by omega), List.take_of_length_le (by omega)]
  · show List.take 2 (List.drop 32 (bv D ++ [.int .i64 R, .int .i64 S])) = _
    rw [List.drop_append_of_le_length (by omega), List.drop_of_length_le (by omega)]
    rfl
theorem keyLits_hd3 (K : Nat) {st fo no R S : Int} {D : List Nat} (ok : OkHC st fo no R S D) : Tryz.prog.keyLits (K + 3) 47 (headC st fo no D R S) = some (litHC st fo no R S D) := by
  obtain ⟨p0, p1, p2, p3, p4⟩ := hdC_parts3 ok
  have q0 := keyLits_int3 (K + 1) ok.st
  have q1 := keyLits_int3 (K + 1) ok.fo
  have q2 := keyLits_int3 (K + 1) ok.no
  have q3 := keyLits_dig K ok.ch
  have q4 := keyLits_sig3 K ok.R ok.S
  unfold Program.keyLits
  rw [Tryz.underlying47]
  have hlen : (headC st fo no D R S).length = Tryz.prog.cellsOf 47 := by rw [headC_len3 ok, cellsHd3]
  obtain ⟨cs, hcs⟩ : ∃ cs, cs = headC st fo no D R S := ⟨_, rfl⟩
  rw [← hcs] at p0 p1 p2 p3 p4 hlen ⊢
  match cs, hlen with
  | [], hl => rw [cellsHd3] at hl; cases hl
  | c :: r, hl =>
    simp only [hl]
    rw [if_pos ⟨trivial, by kernel_rfl⟩]
    simp only [List.mapM_cons, List.mapM_nil, cellsI3, cells35, cellsSg3, p0, p1, p2, p3, p4, q0, q1, q2, q3, q4]
    rfl
theorem formed_hd3 {st fo no R S : Int} {D : List Nat} (ok : OkHC st fo no R S D) : (Value.agg (headC st fo no D R S).toArray).formed Tryz.prog 47 = true := by
  simp [Value.formed, headC_len3 ok, cellsHd3]
theorem eq_headc {st fo no R S : Int} {D : List Nat} (ok : OkHC st fo no R S D) (w : World) : (Op.equalIn 10000 47 (.agg (headC st fo no D R S).toArray) (.agg (headC st fo no D R S).toArray)).run Tryz.prog w = .ok true w := by
  obtain ⟨r, hr, hiff⟩ := run_equalIn_deep (P := Tryz.prog) 9997 3 47 keyTH3 w 3 3 (.agg (headC st fo no D R S).toArray) (.agg (headC st fo no D R S).toArray) (litHC st fo no R S D) (litHC st fo no R S D) (formed_hd3 ok) (formed_hd3 ok)
    (by simpa [Value.cells] using keyLits_hd3 0 ok) (by simpa [Value.cells] using keyLits_hd3 0 ok)
  have e : r = true := hiff.2 rfl
  rw [← e]
  exact hr
theorem two_heads_g (g g2 : Nat → Nat) (st fo no R S st2 fo2 no2 R2 S2 : Int) (W : World) : (Instr.buildSlice 53 2 #[(0, .agg (headC st fo no ((List.range 32).map g) R S).toArray), (1, .agg (headC st2 fo2 no2 ((List.range 32).map g2) R2 S2).toArray)]).run Tryz.prog W = .ok (.slice (some ⟨W.heap.size, 0, none⟩) 2 2) (W.alloc (.cells (headC st fo no ((List.range 32).map g) R S ++ headC st2 fo2 no2 ((List.range 32).map g2) R2 S2).toArray 47)) := by kernel_rfl
theorem two_heads {st fo no R S st2 fo2 no2 R2 S2 : Int} {D D2 : List Nat} (h : D.length = 32) (h2 : D2.length = 32) (W : World) : (Instr.buildSlice 53 2 #[(0, .agg (headC st fo no D R S).toArray), (1, .agg (headC st2 fo2 no2 D2 R2 S2).toArray)]).run Tryz.prog W = .ok (.slice (some ⟨W.heap.size, 0, none⟩) 2 2) (W.alloc (.cells (headC st fo no D R S ++ headC st2 fo2 no2 D2 R2 S2).toArray 47)) := by
  rw [as_range h, as_range h2]
  exact two_heads_g _ _ _ _ _ _ _ _ _ _ _ _ W
theorem sign_i64 (b x : Int) (m : List Nat) : I64 (signK b x m).1 ∧ I64 (signK b x m).2.1 := by
  unfold signK
  split
  · have h1 := pubB_bd b (nonceK x m)
    refine ⟨⟨by show _ ≤ pubB _ _; omega, by show pubB _ _ ≤ _; omega⟩, ?_⟩
    unfold signS Fld.add
    split
    · exact ⟨by simp, by simp⟩
    · constructor <;> simp only [] <;> omega
  · exact ⟨⟨by simp, by simp⟩, ⟨by simp, by simp⟩⟩
theorem public_i64 (b x : Int) : I64 (publicK b x).1 := by
  unfold publicK
  split
  · have h1 := pubB_bd b x
    exact ⟨by show _ ≤ pubB _ _; omega, by show pubB _ _ ≤ _; omega⟩
  · exact ⟨by simp, by simp⟩
/-- both signers give the same. -/
def SgB (w : World) (s : St) (a : Option Addr) (n c : Nat) (f : Int) (ea : Option Addr) (en ec : Nat) (r : List Value) (q : Int) : Prop :=
  (∀ W, Below w.heap.size w W → Calls Tryz.prog 24 #[.agg #[.int .i64 s.id, .int .i64 s.priv, .slice a n c], .int .i64 f, .slice ea en ec] W (SignHPost r q W)) ∧
  (∀ W, Below w.heap.size w W → Calls Tryz.prog 25 #[.agg #[.int .i64 s.id, .int .i64 s.priv, .slice a n c], .int .i64 f, .slice ea en ec] W (SignHPost r q W))
theorem signs_same (s : St) (a : Option Addr) (n c : Nat) (f : Int) (hf : I64 f) (ea : Option Addr) (en ec : Nat) (es : List Ent) (hen : en ≤ 65536) (w : World) (HT : Tabs w) (H : SV (fun _ => True) w a n c s) (HE : ES (fun _ => True) w ea en ec es) :
    ∃ st fo no R S D q, OkHC st fo no R S D ∧ SgB w s a n c f ea en ec (headC st fo no D R S) q := by
  have hok : ∀ e ∈ es, OkE e := fun e he => by
    obtain ⟨j, hj, rfl⟩ := List.getElem_of_mem he
    obtain ⟨_, _, _, _, _, _, ⟨ho, _⟩, _⟩ := HE.rs.get (List.getElem?_eq_getElem hj)
    exact ho
  by_cases hq : Sto.openE s f = 0
  · obtain ⟨hd1, hd2⟩ := chain_len f (es.map (·.dig))
    obtain ⟨hs1, hs2⟩ := sign_i64 4 s.priv (headD s.id f en (chainD f (es.map (·.dig))))
    have hA := fun W (hW : Below w.heap.size w W) => storeSign_any a n c s f hf _ ea en ec es hok hen W (HT.below hW) (H.below hW) (HE.below hW) hq
    have hB := fun W (hW : Below w.heap.size w W) => r30sign_any base_ok a n c s f hf _ ea en ec es hok W (H.below hW) (HE.below hW) hen hq
    have hsh : signHd s f en (es.map (·.dig)) = headC s.id f en (chainD f (es.map (·.dig))) (signK 4 s.priv (headD s.id f en (chainD f (es.map (·.dig))))).1 (signK 4 s.priv (headD s.id f en (chainD f (es.map (·.dig))))).2.1 := by unfold signHd; rfl
    generalize signK 4 s.priv (headD s.id f en (chainD f (es.map (·.dig)))) = V at *
    rw [hsh] at hA hB
    exact ⟨s.id, f, en, V.1, V.2.1, chainD f (es.map (·.dig)), 0, ⟨H.id, hf, ⟨by omega, by omega⟩, hs1, hs2, hd1, hd2⟩, hA, hB⟩
  · exact ⟨0, 0, 0, 0, 0, List.replicate 32 0, Sto.openE s f, ⟨⟨by omega, by omega⟩, ⟨by omega, by omega⟩, ⟨by omega, by omega⟩, ⟨by omega, by omega⟩, ⟨by omega, by omega⟩, by simp, by simp⟩,
      fun W hW => storeSignE_any a n c s f hf _ ea en ec es W (HT.below hW) (H.below hW) (HE.below hW) hen hq,
      fun W hW => r30signE_any a n c s f hf _ ea en ec es W (H.below hW) (HE.below hW) hen hq⟩
set_option maxRecDepth 100000 in
set_option maxHeartbeats 16000000 in
theorem sss_walk (s : St) (a : Option Addr) (n c : Nat) (f : Int) (hf : I64 f) (ea : Option Addr) (en ec : Nat) (es : List Ent) (pub : Int) (hp : I64 pub) (st fo no R S : Int) (D : List Nat) (hh : I64 st ∧ I64 fo ∧ I64 no ∧ I64 R ∧ I64 S ∧ D.length = 32 ∧ ∀ u ∈ D, u < 256) (kind : Int) (hk : I64 kind) (da : Option Addr) (dn dc : Nat) (data : List Nat) (w : World) (HT : Tabs w) (H : SVr w a n c s) (HE : ESr w ea en ec es) (HD : BW w da dn dc data) :
    Calls Tryz.prog 5 #[.agg (stC s a n c).toArray, .int .i64 f, .slice ea en ec, .int .i64 pub, .agg (headC st fo no D R S).toArray, .int .i64 kind, .slice da dn dc] w (RetBo true w) := by
  have HT' := Lib.hid HT
  have H' := Lib.hid H
  have HE' := Lib.hid HE
  have HD' := Lib.hid HD
  have ok0 : Hid (OkHC st fo no R S D) := ⟨hh.1, hh.2.1, hh.2.2.1, hh.2.2.2.1, hh.2.2.2.2.1, hh.2.2.2.2.2⟩
  have hp' := Lib.hid hp
  have hk' := Lib.hid hk
  have hfi := Lib.hid hf
  clear HT H HE HD hh hp hk hf
  obtain ⟨h0, hh0⟩ : ∃ r, Hid (headC st fo no D R S = r) := ⟨_, rfl⟩
  have hhl : Hid (h0.length = 37) := by rw [← hh0.out]; exact headC_len3 ok0.out
  have hhi : Hid ((Tryz.prog.info? 47).map (·.size) = some h0.length) := by rw [hhl.out]; exact sizeH
  rw [hh0.out]
  obtain ⟨X, hX⟩ : ∃ X, X = RetBo true w := ⟨_, rfl⟩
  have hfin : Hid (∀ W, Below w.heap.size w W → X (.returned (.bool true)) W) := fun W h => by rw [hX]; exact ⟨rfl, h⟩
  rw [← hX]
  clear hX
  obtain ⟨sb, hsb⟩ : ∃ sb, Hid (w.heap.size = sb) := ⟨_, rfl⟩
  go_enter Tryz.func5, Tryz.ntmps5
  go_upto_region 1 with fail
  rw [hsb.out]
  generalize hW : World.alloc (World.alloc w _) _ = W1
  have hB : Hid (Blk W1 sb 24 (stC s a n c)) := by rw [← hW, ← hsb.out]; exact (Blk.new w _ (stC s a n c)).alloc _
  have hH : Hid (Blk W1 (sb + 1) 47 h0) := by
    have h := Blk.new (w.alloc (.cells (stC s a n c).toArray 24)) 47 h0
    rw [World.size_alloc, hsb.out] at h
    rw [← hW]; exact h
  have hbw : Hid (Below w.heap.size w W1) := by rw [← hW]; exact ((Below.refl _ w).alloc (Nat.le_refl _) _).alloc (by simp) _
  clear hW
  go_wp2_with fail
  refine (sane_any _ (HT'.out.below hbw.out)).mono ?_
  rintro e w1 ⟨rfl, hb⟩
  replace hB := Lib.hid (hB.out.below hb hB.out.lt)
  replace hH := Lib.hid (hH.out.below hb hH.out.lt)
  replace hbw := Lib.hid (hbw.out.trans (hb.mono hbw.out.size))
  clear hb
  have s0 := hB.out.at_ (i := 0) rfl
  have s1 := hB.out.at_ (i := 1) rfl
  have s2 := hB.out.at_ (i := 2) rfl
  go_wp2_with fail
  refine (few30s_any a n c s w1 (H'.out.below hbw.out)).mono ?_
  rintro e w2 ⟨rfl, hb⟩
  replace hB := Lib.hid (hB.out.below hb hB.out.lt)
  replace hH := Lib.hid (hH.out.below hb hH.out.lt)
  replace hbw := Lib.hid (hbw.out.trans (hb.mono hbw.out.size))
  clear hb
  clear s0 s1 s2
  cases hfw : few30s s with
  | false =>
    have hend := Lib.hid (hfin.out w2 hbw.out)
    clear hfin hfw
    go_wp2_with fail
    exact hend.out
  | true =>
    go_wp2_with fail
    refine (fewE30_any ea en ec es w2 (ESr.below HE'.out hbw.out)).mono ?_
    rintro e w2' ⟨rfl, hwx⟩
    rw [hwx]
    clear hwx w2'
    cases hfe : few30 es with
    | false =>
      have hend := Lib.hid (hfin.out _ hbw.out)
      clear hfin hfw hfe
      go_wp2_with fail
      exact hend.out
    | true =>
      by_cases hdn : 9000 < dn
      · have q1 : decide ((9000 : Int) < (dn : Int)) = true := decide_eq_true (by omega)
        have hend := Lib.hid (hfin.out _ hbw.out)
        clear hfin hfw hfe
        go_wp2_with fail
        exact hend.out
      · have q1 : decide ((9000 : Int) < (dn : Int)) = false := decide_eq_false (by omega)
        have HS := Lib.hid (H'.out.sv hfw)
        obtain ⟨e14, e9⟩ := few30_iff hfe
        have hen : en ≤ 14 := by have := HE'.out.len; omega
        have HES := Lib.hid (ESr.es HE'.out (by omega) fun e he => Nat.le_trans (e9 e he) (by omega))
        obtain ⟨st2, fo2, no2, R2, S2, D2, q, ok2, hsg0⟩ := signs_same s a n c f hfi.out ea en ec es (by omega) w HT'.out HS.out HES.out
        have ok2' := Lib.hid ok2
        have htw := Lib.hid (fun W => two_heads (st := st) (fo := fo) (no := no) (R := R) (S := S) (st2 := st2) (fo2 := fo2) (no2 := no2) (R2 := R2) (S2 := S2) ok0.out.ch.1 ok2.ch.1 W)
        obtain ⟨r, hrr⟩ : ∃ r, Hid (headC st2 fo2 no2 D2 R2 S2 = r) := ⟨_, rfl⟩
        have hrl : r.length = 37 := by rw [← hrr.out]; exact headC_len3 ok2
        have hri : Hid ((Tryz.prog.info? 47).map (·.size) = some r.length) := by rw [hrl]; exact sizeH
        have hr1 : Hid (∀ u ∈ r, u.oneCell' = true) := (HeadR.mk hrr.out ok2.ch.1).one
        have heqr := Lib.hid (fun W => eq_headc ok2 W)
        rw [hrr.out] at hsg0 heqr htw
        rw [hh0.out] at htw
        have hsg := Lib.hid hsg0
        clear hsg0 ok2 hfw hfe e14 e9
        replace hsg := hsg.out
        go_upto_region 5 with fail
        clear q1
        have hcS := Lib.hid hsg.1
        have hrS := Lib.hid hsg.2
        clear hsg
        have s0 := hB.out.at_ (i := 0) rfl
        have s1 := hB.out.at_ (i := 1) rfl
        have s2 := hB.out.at_ (i := 2) rfl
        go_wp2_with fail
        refine (hcS.out w2 hbw.out).mono ?_
        rintro e w3 ⟨rfl, hb⟩
        replace hB := Lib.hid (hB.out.below hb hB.out.lt)
        replace hH := Lib.hid (hH.out.below hb hH.out.lt)
        replace hbw := Lib.hid (hbw.out.trans (hb.mono hbw.out.size))
        clear hb
        clear s0 s1 s2 hcS
        obtain ⟨g1, hg1⟩ : ∃ g, Hid (w3.heap.size = g) := ⟨_, rfl⟩
        obtain ⟨V3, hP⟩ := put_row (ty := 47) (Blk.new w3 47 zeroHd) (x := r) (by rw [hrl, zeroHd_len]) hri.out hr1.out
        have hb : Below w3.heap.size w3 V3 := below_grown ((Below.refl _ w3).alloc (Nat.le_refl _) _) hP.grown (by simp) (Nat.le_refl _)
        replace hB := Lib.hid (hB.out.below hb hB.out.lt)
        replace hH := Lib.hid (hH.out.below hb hH.out.lt)
        replace hbw := Lib.hid (hbw.out.trans (hb.mono hbw.out.size))
        clear hb
        have b1 : Hid (Blk V3 g1 47 r) := by rw [← hg1.out]; exact hP.blk
        have hP' := Lib.hid hP
        rw [hg1.out] at hP'
        clear hP
        go_upto_region 6 with (first
          | (rw [hg1.out]
             refine wpList_store_mid (by rfl) 47 _ _ (by rfl) g1 0 r.toArray (by rfl) (by rfl) hP'.out.there hP'.out.info (by simpa using hP'.out.one) ?_
             generalize hWq : World.setCells _ _ _ _ = Wa
             obtain rfl : V3 = Wa := by rw [← hWq]; exact hP'.out.eq
             clear hWq))
        clear hP' hg1
        have s0 := hB.out.at_ (i := 0) rfl
        have s1 := hB.out.at_ (i := 1) rfl
        have s2 := hB.out.at_ (i := 2) rfl
        go_wp2_with fail
        refine (hrS.out V3 hbw.out).mono ?_
        rintro e w4 ⟨rfl, hb⟩
        replace hB := Lib.hid (hB.out.below hb hB.out.lt)
        replace hH := Lib.hid (hH.out.below hb hH.out.lt)
        replace b1 := Lib.hid (b1.out.below hb b1.out.lt)
        replace hbw := Lib.hid (hbw.out.trans (hb.mono hbw.out.size))
        clear hb
        clear s0 s1 s2 hrS
        obtain ⟨g2, hg2⟩ : ∃ g, Hid (w4.heap.size = g) := ⟨_, rfl⟩
        obtain ⟨V4, hP⟩ := put_row (ty := 47) (Blk.new w4 47 zeroHd) (x := r) (by rw [hrl, zeroHd_len]) hri.out hr1.out
        have hb : Below w4.heap.size w4 V4 := below_grown ((Below.refl _ w4).alloc (Nat.le_refl _) _) hP.grown (by simp) (Nat.le_refl _)
        replace hB := Lib.hid (hB.out.below hb hB.out.lt)
        replace hH := Lib.hid (hH.out.below hb hH.out.lt)
        replace b1 := Lib.hid (b1.out.below hb b1.out.lt)
        replace hbw := Lib.hid (hbw.out.trans (hb.mono hbw.out.size))
        clear hb
        have b2 : Hid (Blk V4 g2 47 r) := by rw [← hg2.out]; exact hP.blk
        have hP' := Lib.hid hP
        rw [hg2.out] at hP'
        clear hP
        go_upto_region 7 with (first
          | (rw [hg2.out]
             refine wpList_store_mid (by rfl) 47 _ _ (by rfl) g2 0 r.toArray (by rfl) (by rfl) hP'.out.there hP'.out.info (by simpa using hP'.out.one) ?_
             generalize hWq : World.setCells _ _ _ _ = Wa
             obtain rfl : V4 = Wa := by rw [← hWq]; exact hP'.out.eq
             clear hWq))
        clear hP' hg2
        have s1 := hB.out.at_ (i := 1) rfl
        have hpb := Lib.hid (fun W => Public_any s.priv W)
        have hpi := Lib.hid (public_i64 4 s.priv)
        generalize publicK 4 s.priv = pk at *
        obtain ⟨p, pe⟩ := pk
        go_wp2_with fail
        refine (hpb.out V4).mono ?_
        rintro e w5 ⟨rfl, hb⟩
        replace hB := Lib.hid (hB.out.below hb hB.out.lt)
        replace hH := Lib.hid (hH.out.below hb hH.out.lt)
        replace b1 := Lib.hid (b1.out.below hb b1.out.lt)
        replace b2 := Lib.hid (b2.out.below hb b2.out.lt)
        replace hbw := Lib.hid (hbw.out.trans (hb.mono hbw.out.size))
        clear hb
        clear s1 hpb
        go_upto_region 8 with fail
        clear hB
        have rH := hH.out.range
        have r2 := b2.out.range
        have hqi := hri.out
        have hqh := hhi.out
        have hbs := htw.out
        have hu := Tryz.underlying47
        obtain ⟨hs, hhs⟩ : ∃ g, Hid (w5.heap.size = g) := ⟨_, rfl⟩
        obtain ⟨W6, hW6⟩ : ∃ W, Hid (w5.alloc (.cells (h0 ++ r).toArray 47) = W) := ⟨_, rfl⟩
        have hBs : Hid (Blk W6 hs 47 (h0 ++ r)) := by rw [← hW6.out, ← hhs.out]; exact Blk.new w5 _ (h0 ++ r)
        have hb : Below w5.heap.size w5 W6 := by rw [← hW6.out]; exact (Below.refl _ w5).alloc (Nat.le_refl _) _
        replace b1 := Lib.hid (b1.out.below hb b1.out.lt)
        replace b2 := Lib.hid (b2.out.below hb b2.out.lt)
        replace hbw := Lib.hid (hbw.out.trans (hb.mono hbw.out.size))
        clear hb hH
        go_wp2_with (first
          | (refine wpList_load_mid (by rfl) 47 (.tmp 11) (by rfl) (sb + 1) 0 (by rfl) h0 _ rH hu (by rfl) hqh ?_)
          | (refine wpList_load_mid (by rfl) 47 (.tmp 17) (by rfl) g2 0 (by rfl) r _ r2 hu (by rfl) hqi ?_)
          | (refine wpList_buildSlice_run (by rfl) 53 2 _ rfl #[(0, .agg h0.toArray), (1, .agg r.toArray)] (by simp only [List.map_toArray, List.map_cons, List.map_nil]; rfl) (hbs _) ?_
             rw [hhs.out, hW6.out]))
        clear rH r2 hqi hqh hbs hhs hW6
        have hrow : Hid (∀ k : Nat, k < 2 → ∃ st3 fo3 no3 R3 S3 D3, OkHC st3 fo3 no3 R3 S3 D3 ∧ ∀ wz, Below W6.heap.size W6 wz → wz.rangeAt hs (k * 37) (headC st3 fo3 no3 D3 R3 S3)) := fun k hk => by
          have hA : ∀ wz, Below W6.heap.size W6 wz → ∀ i v, (h0 ++ r)[i]? = some v → wz.cell? ⟨hs, i, none⟩ = some v := fun wz h i v hv => (hBs.out.below h hBs.out.lt).at_ hv
          by_cases hk0 : k = 0
          · refine ⟨st, fo, no, R, S, D, ok0.out, fun wz h j v hv => ?_⟩
            rw [hh0.out] at hv
            rw [hk0, Nat.zero_mul, Nat.zero_add]
            exact hA wz h j v (by rw [List.getElem?_append_left (List.getElem?_eq_some_iff.1 hv).1]; exact hv)
          · refine ⟨st2, fo2, no2, R2, S2, D2, ok2'.out, fun wz h j v hv => ?_⟩
            rw [hrr.out] at hv
            rw [show k = 1 by omega, Nat.one_mul]
            exact hA wz h (37 + j) v (by rw [List.getElem?_append_right (by rw [hhl.out]; omega), hhl.out, Nat.add_sub_cancel_left]; exact hv)
        have hv1 : Hid (∀ x st fo no R S D, I64 x → OkHC st fo no R S D → ∀ W, Below w.heap.size w W → Calls Tryz.prog 27 #[.int .i64 x, .agg (headC st fo no D R S).toArray] W (RetBo (headB x st fo no D R S) W)) := fun x st fo no R S D hx ok W hW => sVerify_any x st fo no R S D hx ok.st ok.fo ok.no ok.R ok.ch W (HT'.out.below hW)
        have hv2 : Hid (∀ x st fo no R S D, I64 x → OkHC st fo no R S D → ∀ W, Below w.heap.size w W → Calls Tryz.prog 28 #[.int .i64 x, .agg (headC st fo no D R S).toArray] W (RetBo (headB x st fo no D R S) W)) := fun x st fo no R S D hx ok W hW => r30verify_any x st fo no R S D hx ok.st ok.fo ok.no ok.R ok.ch W
        clear hhi hhl hh0 htw ok0 hrr hBs
        go_loopw [64] (fun i wr => ∃ k : Nat, k ≤ 2 ∧ i = .int .i64 k ∧ Hid (Below W6.heap.size W6 wr)) (fun i _ => 2 - (intOf i).toNat)
        case atStart => exact ⟨0, Nat.zero_le _, rfl, Below.refl _ _⟩
        case round =>
          obtain ⟨k, hk, rfl, hbr⟩ := hrel
          generalize wr = wq at *
          by_cases hlt : k < 2
          · obtain ⟨st3, fo3, no3, R3, S3, D3, ok3, hrg⟩ := hrow.out k hlt
            have hv1' := Lib.hid (fun x hx W hW => hv1.out x st3 fo3 no3 R3 S3 D3 hx ok3 W hW)
            have hv2' := Lib.hid (fun x hx W hW => hv2.out x st3 fo3 no3 R3 S3 D3 hx ok3 W hW)
            have hl3 := headC_len3 ok3
            have ho3 : ∀ u ∈ headC st3 fo3 no3 D3 R3 S3, u.oneCell' = true := (HeadR.mk rfl ok3.ch.1).one
            obtain ⟨r3, hr3⟩ : ∃ r, Hid (headC st3 fo3 no3 D3 R3 S3 = r) := ⟨_, rfl⟩
            have hbv : Hid (∀ x, ∃ v, headB x st3 fo3 no3 D3 R3 S3 = v) := fun x => ⟨_, rfl⟩
            obtain ⟨hB3, hHB3⟩ : ∃ f, Hid ((fun x => headB x st3 fo3 no3 D3 R3 S3) = f) := ⟨_, rfl⟩
            have hv1'' : Hid (∀ x, I64 x → ∀ W, Below w.heap.size w W → Calls Tryz.prog 27 #[.int .i64 x, .agg r3.toArray] W (RetBo (hB3 x) W)) := fun x hx W hW => by rw [← hHB3.out, ← hr3.out]; exact hv1'.out x hx W hW
            have hv2'' : Hid (∀ x, I64 x → ∀ W, Below w.heap.size w W → Calls Tryz.prog 28 #[.int .i64 x, .agg r3.toArray] W (RetBo (hB3 x) W)) := fun x hx W hW => by rw [← hHB3.out, ← hr3.out]; exact hv2'.out x hx W hW
            rw [hr3.out] at hrg hl3 ho3
            have hrg' := Lib.hid (hrg wq hbr.out)
            have hri3 : (Tryz.prog.info? 47).map (·.size) = some r3.length := by rw [hl3]; exact sizeH
            have k0 : (0 : Int) ≤ (k : Int) := by omega
            have k1 : (k : Int) < 2 := by omega
            obtain ⟨g3, hg3⟩ : ∃ g, Hid (wq.heap.size = g) := ⟨_, rfl⟩
            obtain ⟨V5, hP⟩ := put_row (ty := 47) (Blk.new wq 47 zeroHd) (x := r3) (by rw [hl3, zeroHd_len]) hri3 ho3
            have hb5 : Hid (Below wq.heap.size wq V5) := below_grown ((Below.refl _ wq).alloc (Nat.le_refl _) _) hP.grown (by simp) (Nat.le_refl _)
            have b3 : Hid (Blk V5 g3 47 r3) := by rw [← hg3.out]; exact hP.blk
            have hP' := Lib.hid hP
            rw [hg3.out] at hP'
            clear hP hrg hv1 hv2 hv1' hv2' hbv hr3 hHB3 ok3 hl3 ho3 hrow
            have hu := Tryz.underlying47
            go_upto_region 11 with (first
              | (refine wpList_load_mid (by rfl) 47 (.tmp 66) (by rfl) hs (k * 37) (by go_simp) r3 _ hrg'.out hu (by rfl) hri3 ?_)
              | (rw [hg3.out]
                 refine wpList_store_mid (by rfl) 47 _ _ (by rfl) g3 0 r3.toArray (by rfl) (by rfl) hP'.out.there hP'.out.info (by simpa using hP'.out.one) ?_
                 generalize hWq : World.setCells _ _ _ _ = Wa
                 obtain rfl : V5 = Wa := by rw [← hWq]; exact hP'.out.eq
                 clear hWq))
            clear hP' hg3 hrg'
            obtain ⟨ib, hib⟩ : ∃ g, Hid (V5.heap.size = g) := ⟨_, rfl⟩
            obtain ⟨V6, hV6⟩ : ∃ W, Hid (V5.alloc (.cells #[.int .i64 pub, .int .i64 p] 3) = W) := ⟨_, rfl⟩
            have hIB : Hid (Blk V6 ib 3 [.int .i64 pub, .int .i64 p]) := by rw [← hV6.out, ← hib.out]; exact Blk.new V5 _ [.int .i64 pub, .int .i64 p]
            have hb6 : Hid (Below V5.heap.size V5 V6) := by rw [← hV6.out]; exact (Below.refl _ V5).alloc (Nat.le_refl _) _
            have hb36 := Lib.hid (b3.out.below hb6.out b3.out.lt)
            have hwq6 := Lib.hid (hb5.out.trans (hb6.out.mono hb5.out.size))
            have hb5' := hwq6
            have hW66 := Lib.hid (hbr.out.trans (hwq6.out.mono hbr.out.size))
            have hw6 := Lib.hid (hbw.out.trans (hW66.out.mono hbw.out.size))
            have hint : Hid (∀ j : Nat, j < 2 → ∃ x, I64 x ∧ ∀ wz, Below V6.heap.size V6 wz → wz.cell? ⟨ib, j, none⟩ = some (.int .i64 x)) := fun j hj => by
              by_cases hj0 : j = 0
              · exact ⟨pub, hp'.out, fun wz h => by rw [hj0]; exact (hIB.out.below h hIB.out.lt).at_ (i := 0) rfl⟩
              · exact ⟨p, hpi.out, fun wz h => by rw [show j = 1 by omega]; exact (hIB.out.below h hIB.out.lt).at_ (i := 1) rfl⟩
            go_upto_region 12 with fail
            rw [hib.out]
            generalize hWq : World.alloc V5 _ = Wq
            obtain rfl : V6 = Wq := by rw [← hWq, ← hV6.out]
            clear hWq hIB hV6 hib b3 hb5 hb6 hwq6
            go_wp2_with fail
            go_loopw [72] (fun i wr => ∃ j : Nat, j ≤ 2 ∧ i = .int .i64 j ∧ Hid (Below V6.heap.size V6 wr)) (fun i _ => 2 - (intOf i).toNat)
            case atStart => exact ⟨0, Nat.zero_le _, rfl, Below.refl _ _⟩
            case round =>
              obtain ⟨j, hj, rfl, hbj⟩ := hrel
              generalize wr = V7 at *
              by_cases hjl : j < 2
              · obtain ⟨x, hx0, hc0⟩ := hint.out j hjl
                have hx := Lib.hid hx0
                have hci := hc0 V7 hbj.out
                have hwV := Lib.hid (hw6.out.trans (hbj.out.mono hw6.out.size))
                have hr7 : Hid (∀ wz, Below V7.heap.size V7 wz → wz.rangeAt g3 0 r3) := fun wz h => ((hb36.out.below hbj.out hb36.out.lt).below h (hb36.out.below hbj.out hb36.out.lt).lt).range
                have j0 : (0 : Int) ≤ (j : Int) := by omega
                have j1 : (j : Int) < 2 := by omega
                clear hx0 hc0 hint
                go_upto_region 14 with fail
                clear hci
                refine wp_region_held_drew (S := fun wz => Below V7.heap.size V7 wz) (by kernel_rfl) ((Below.refl _ V7).drew) (fun hHeld => ?_)
                have hq0 : Below V7.heap.size V7 V7.drew := (Below.refl _ V7).drew
                generalize V7.drew = Wd at *
                refine wpAnyH_take (i := 0) (oi := { dst := some 76, op := Op.move (Operand.tmp 24), type := 3, pos := "law.go:75", after := #[], guard := none }) (v := ?_) rfl (by kernel_rfl) (by kernel_rfl) (by kernel_rfl) (fun _ _ _ h => h) (Or.inl ⟨by rfl, ?_⟩) hHeld ?_
                rotate_left
                · intro wz hSw
                  go_simp
                  all_goals (with_reducible rfl)
                try simp only [Act.put, List.setIfInBounds_toArray, List.set_cons_zero, List.set_cons_succ]
                refine wpAnyH_take (i := 3) (oi := { dst := some 79, op := Op.move (Operand.tmp 24), type := 3, pos := "law.go:75", after := #[], guard := none }) (v := ?_) rfl (by kernel_rfl) (by kernel_rfl) (by kernel_rfl) (fun _ _ _ h => h) (Or.inl ⟨by rfl, ?_⟩) hHeld ?_
                rotate_left
                · intro wz hSw
                  go_simp
                  all_goals (with_reducible rfl)
                try simp only [Act.put, List.setIfInBounds_toArray, List.set_cons_zero, List.set_cons_succ]
                refine wpAnyH_take (i := 1) (oi := { dst := some 77, op := Op.load 47 (Operand.tmp 22), type := 47, pos := "law.go:75", after := #[], guard := none }) rfl (by kernel_rfl) (by kernel_rfl) (by kernel_rfl) (fun _ _ _ h => h) (yieldsIf_load_mid (by rfl) _ _ rfl g3 0 rfl (r3) _ (fun wz h => hr7.out wz h) Tryz.underlying47 rfl (hri3)) hHeld ?_
                try simp only [Act.put, List.setIfInBounds_toArray, List.set_cons_zero, List.set_cons_succ]
                refine wpAnyH_take (i := 4) (oi := { dst := some 80, op := Op.load 47 (Operand.tmp 22), type := 47, pos := "law.go:75", after := #[], guard := none }) rfl (by kernel_rfl) (by kernel_rfl) (by kernel_rfl) (fun _ _ _ h => h) (yieldsIf_load_mid (by rfl) _ _ rfl g3 0 rfl (r3) _ (fun wz h => hr7.out wz h) Tryz.underlying47 rfl (hri3)) hHeld ?_
                try simp only [Act.put, List.setIfInBounds_toArray, List.set_cons_zero, List.set_cons_succ]
                refine wpAnyH_ready (rs := [2]) (by kernel_rfl) (by simp) ?_
                refine AllReadyH.cons (o := { dst := some 78, op := Op.call { callee := Callee.value (Operand.func 27), args := #[Operand.tmp 76, Operand.tmp 77], argTypes := #[3, 47] }, type := 4, pos := "law.go:75", after := #[{ on := 0, ground := Ground.data }, { on := 1, ground := Ground.data }], guard := none }) rfl (fun K hK => ?_) AllReadyH.nil
                rw [if_pos (by rfl)]
                show Oper.wp _ _ _ _ K _
                go_simp
                go_at_call 27
                refine (hv1''.out x hx.out _ (hwV.out.trans (hHeld.mono hwV.out.size))).mono ?_
                rintro e W8 ⟨rfl, hb8⟩
                refine hK.out _ _ (hHeld.trans (hb8.mono hHeld.size)) (fun hHeld2 => ?_)
                have hHeld3 := hHeld.trans (hb8.mono hHeld.size)
                clear hHeld hHeld2 hb8
                have hHeld := hHeld3
                clear hHeld3
                clear hK K
                try simp only [Act.put, List.setIfInBounds_toArray, List.set_cons_zero, List.set_cons_succ]
                refine wpAnyH_ready (rs := [5]) (by kernel_rfl) (by simp) ?_
                refine AllReadyH.cons (o := { dst := some 81, op := Op.call { callee := Callee.value (Operand.func 28), args := #[Operand.tmp 79, Operand.tmp 80], argTypes := #[3, 47] }, type := 4, pos := "law.go:75", after := #[{ on := 3, ground := Ground.data }, { on := 4, ground := Ground.data }, { on := 2, ground := Ground.chain }], guard := none }) rfl (fun K hK => ?_) AllReadyH.nil
                rw [if_pos (by rfl)]
                show Oper.wp _ _ _ _ K _
                go_simp
                go_at_call 28
                refine (hv2''.out x hx.out _ (hwV.out.trans (hHeld.mono hwV.out.size))).mono ?_
                rintro e W9 ⟨rfl, hb8⟩
                refine hK.out _ _ (hHeld.trans (hb8.mono hHeld.size)) (fun hHeld2 => ?_)
                have hHeld3 := hHeld.trans (hb8.mono hHeld.size)
                clear hHeld hHeld2 hb8
                have hHeld := hHeld3
                clear hHeld3
                clear hK K
                try simp only [Act.put, List.setIfInBounds_toArray, List.set_cons_zero, List.set_cons_succ]
                refine wpAnyH_take (i := 6) (oi := { dst := some 82, op := Op.binOp BinOp.neq 4 (Operand.tmp 78) (Operand.tmp 81) 4, type := 4, pos := "law.go:75", after := #[{ on := 2, ground := Ground.data }, { on := 5, ground := Ground.data }], guard := none }) (v := ?_) rfl (by kernel_rfl) (by kernel_rfl) (by kernel_rfl) (fun _ _ _ h => h) (Or.inl ⟨by rfl, ?_⟩) hHeld ?_
                rotate_left
                · intro wz hSw
                  go_simp
                  all_goals (with_reducible rfl)
                try simp only [Act.put, List.setIfInBounds_toArray, List.set_cons_zero, List.set_cons_succ]
                refine wpAnyH_done (by kernel_rfl) ?_ _
                have hb9 := Lib.hid (hbj.out.trans (hHeld.mono hbj.out.size))
                clear hHeld
                go_wp2_with fail
                go_roundw
                case rel => exact ⟨j + 1, by omega, by go_num, hb9⟩
                case measure => simp [intOf]; omega
              · have j1 : decide ((j : Int) < 2) = false := decide_eq_false (by omega)
                have hb9 := Lib.hid (hbr.out.trans ((hb5'.out.trans (hbj.out.mono hb5'.out.size)).mono hbr.out.size))
                clear hint hv1'' hv2''
                go_wp2_with fail
                go_roundw
                case rel => exact ⟨k + 1, by omega, by go_num, hb9⟩
                case measure => simp [intOf]; omega
          · have k1 : decide ((k : Int) < 2) = false := decide_eq_false (by omega)
            have b1q := Lib.hid (b1.out.below hbr.out b1.out.lt)
            have b2q := Lib.hid (b2.out.below hbr.out b2.out.lt)
            have hbq := Lib.hid (hbw.out.trans (hbr.out.mono hbw.out.size))
            have r1 := b1q.out.range
            have r2 := b2q.out.range
            have hqi := hri.out
            have heq := heqr.out
            have hd1 := Lib.hid (fun W (hW : Below w.heap.size w W) => digest_any kind hk'.out da dn dc data W (HT'.out.below hW) (HD'.out.below hW) (by omega))
            have hd2 := Lib.hid (fun W (hW : Below w.heap.size w W) => r30digest_any kind hk'.out da dn dc data W (HD'.out.below hW) (by omega))
            have hE32 : Dig (entryD kind data) := ⟨Sha.tagged_length _ _, Sha.tagged_lt _ _⟩
            generalize entryD kind data = E at *
            have heqE : ∀ W, (Op.equalIn 10000 43 (.agg (bv E).toArray) (.agg (bv E).toArray)).run Tryz.prog W = .ok true W := fun W => by rw [eq_dig hE32 hE32, decide_eq_true rfl]
            have hdl : Hid ((es.map (·.dig)).length = en) := by show _ = _; rw [List.length_map]; exact HES.out.rs.len
            have hds := Lib.hid (fun W (hW : Below w.heap.size w W) => r30digs_any (fun _ => True) ea en ec es W (HES.out.below hW))
            have hc1 := Lib.hid (fun W (hW : Below w.heap.size w W) da dc (hD : DS W da en dc (es.map (·.dig))) => storeChain_any f hfi.out da en dc (es.map (·.dig)) W (HT'.out.below hW) hD)
            have hc2 := Lib.hid (fun W da dc (hD : DS W da en dc (es.map (·.dig))) => r30chain_any f hfi.out da en dc (es.map (·.dig)) W hD)
            have hC32 : Dig (chainD f (es.map (·.dig))) := by obtain ⟨h1, h2⟩ := chain_len f (es.map (·.dig)); exact ⟨h1, h2⟩
            generalize chainD f (es.map (·.dig)) = C at *
            generalize es.map (·.dig) = ds at *
            have heqC : ∀ W, (Op.equalIn 10000 43 (.agg (bv C).toArray) (.agg (bv C).toArray)).run Tryz.prog W = .ok true W := fun W => by rw [eq_dig hC32 hC32, decide_eq_true rfl]
            clear hrow hv1 hv2 hri heqr ok2' hE32 hC32
            go_wp2_with (first
              | (refine wpList_load_mid (by rfl) 47 (.tmp 15) (by rfl) g1 0 (by rfl) r _ r1 hu (by rfl) hqi ?_)
              | (refine wpList_load_mid (by rfl) 47 (.tmp 17) (by rfl) g2 0 (by rfl) r _ r2 hu (by rfl) hqi ?_))
            clear heq r1 r2 hqi
            refine (hd1.out wq hbq.out).mono ?_
            rintro e w11 ⟨rfl, hb⟩
            replace hbq := Lib.hid (hbq.out.trans (hb.mono hbq.out.size))
            clear hb
            go_wp2_with fail
            refine (hd2.out w11 hbq.out).mono ?_
            rintro e w12 ⟨rfl, hb⟩
            replace hbq := Lib.hid (hbq.out.trans (hb.mono hbq.out.size))
            clear hb
            go_wp2_with fail
            clear heqE
            refine (hds.out w12 hbq.out).mono ?_
            rintro e w13 ⟨da1, dc1, rfl, hD1, hb⟩
            replace hbq := Lib.hid (hbq.out.trans (hb.mono hbq.out.size))
            rw [hdl.out] at hD1 ⊢
            have hD1' := Lib.hid hD1
            clear hb hD1
            go_wp2_with fail
            refine (hc1.out w13 hbq.out da1 dc1 hD1'.out).mono ?_
            rintro e w14 ⟨rfl, hb⟩
            replace hbq := Lib.hid (hbq.out.trans (hb.mono hbq.out.size))
            clear hb hD1'
            go_wp2_with fail
            refine (hds.out w14 hbq.out).mono ?_
            rintro e w15 ⟨da2, dc2, rfl, hD2, hb⟩
            replace hbq := Lib.hid (hbq.out.trans (hb.mono hbq.out.size))
            rw [hdl.out] at hD2 ⊢
            have hD2' := Lib.hid hD2
            clear hb hD2
            go_wp2_with fail
            refine (hc2.out w15 da2 dc2 hD2'.out).mono ?_
            rintro e w16 ⟨rfl, hb⟩
            replace hbq := Lib.hid (hbq.out.trans (hb.mono hbq.out.size))
            have hend := Lib.hid (hfin.out w16 hbq.out)
            clear hb hD2' hbq hfin
            go_wp2_with fail
            exact hend.out

end Go.Proofs.YtlpgjdlkjahdgaaGreatDoor
namespace Go.Proofs.YtlpgjdlkjahdgaaGreatDoor.lawSSignSpec
open Go.ChangeShapes Go.WideShapes Go.ChangeAt Go.RowKit Go.Mem
open Go.Proofs.YtlpgjdlkjahdgaaGreatDoor

set_option maxRecDepth 100000 in
theorem lifted (os : Os) (started : os.Started) (H : Type) (enc : TypeId × Value → H) :
    ReturnsInHanded {} Tryz.checked os 5 .any (fun w args => (Rows.storeSignSpecSpec.pre enc Tryz.prog Tryz.f5 [] false w args ∧ laidMetH Tryz.prog laid2 w) ∧ sizedMet enc Tryz.prog Tryz.f5 (OpenSpec.ofChange Rows.storeSignSpecSpec) false w args)
      (Rows.storeSignSpecSpec.post enc Tryz.prog Tryz.f5 false true false false) := by
  refine returnsInHanded_of_change_and (C := Tryz.checked) (X := fun w _ => laidMetH Tryz.prog laid2 w) (fun _ _ _ hh h => h.of_heap hh) own started (by kernel_rfl) Tryz.func5
    (ChangeSpec.witness_shaped (enc := enc) (C := Tryz.checked) (os := os) (X := fun w _ => laidMetH Tryz.prog laid2 w) false (World.doorLaid Tryz.prog 400 os) #[.agg (stC ⟨0, 0, []⟩ none 0 0).toArray, .int .i64 0, .slice none 0 0, .int .i64 0, .agg (headC 0 0 0 (List.replicate 32 0) 0 0).toArray, .int .i64 0, .slice none 0 0] 8 rfl (World.shaped_of_RefB (by kernel_rfl) (by kernel_rfl)) (by kernel_rfl) (by kernel_rfl) (by kernel_rfl) (door_met os _)) ?_
  intro W base args ds gs before hval0 hW _ hwt hL _
  have hval : ∀ (j : Nat) t v, Tryz.f5.params[j]? = some t → args[j]? = some v → Value.okWide Tryz.prog W .any base t v := hval0
  have hW' := hW
  obtain ⟨p, q, hA0, hV, rfl, hfz, hnd⟩ := hW
  have hA : DataW.TrodAll enc Tryz.prog W 0 (fun _ => true) true Tryz.f5.params.toList args.toList ds p := hA0
  rw [Tryz.params5] at hA hval
  obtain ⟨v0, vs0, d0, ds0, p0, q0, hargs, rfl, rfl, h0, r0⟩ := trodAll_cons hA
  obtain ⟨v1, vs1, d1, ds1, p1, q1, rfl, rfl, rfl, h1, r1⟩ := trodAll_cons r0
  obtain ⟨v2, vs2, d2, ds2, p2, q2, rfl, rfl, rfl, h2, r2⟩ := trodAll_cons r1
  obtain ⟨v3, vs3, d3, ds3, p3, q3, rfl, rfl, rfl, h3, r3⟩ := trodAll_cons r2
  obtain ⟨v4, vs4, d4, ds4, p4, q4, rfl, rfl, rfl, h4, r4⟩ := trodAll_cons r3
  obtain ⟨v5, vs5, d5, ds5, p5, q5, rfl, rfl, rfl, h5, r5⟩ := trodAll_cons r4
  obtain ⟨v6, vs6, d6, ds6, p6, q6, rfl, rfl, rfl, h6, r6⟩ := trodAll_cons r5
  obtain ⟨rfl, rfl, rfl⟩ := trodAll_nil r6
  obtain rfl : args = #[v0, v1, v2, v3, v4, v5, v6] := by cases args; simp_all
  obtain ⟨rfl, rfl⟩ := trodVars_none hV
  have lt0 : ∀ x ∈ p0, x.block < W.heap.size := by obtain ⟨m, hm⟩ := h0; exact DataW.trod_lt m _ _ _ hm
  have lt1 : ∀ x ∈ p1, x.block < W.heap.size := by obtain ⟨m, hm⟩ := h1; exact DataW.trod_lt m _ _ _ hm
  have lt2 : ∀ x ∈ p2, x.block < W.heap.size := by obtain ⟨m, hm⟩ := h2; exact DataW.trod_lt m _ _ _ hm
  have lt3 : ∀ x ∈ p3, x.block < W.heap.size := by obtain ⟨m, hm⟩ := h3; exact DataW.trod_lt m _ _ _ hm
  have lt4 : ∀ x ∈ p4, x.block < W.heap.size := by obtain ⟨m, hm⟩ := h4; exact DataW.trod_lt m _ _ _ hm
  have lt5 : ∀ x ∈ p5, x.block < W.heap.size := by obtain ⟨m, hm⟩ := h5; exact DataW.trod_lt m _ _ _ hm
  have lt6 : ∀ x ∈ p6, x.block < W.heap.size := by obtain ⟨m, hm⟩ := h6; exact DataW.trod_lt m _ _ _ hm
  have k0' := h0
  have k1' := h1
  have k2' := h2
  have k3' := h3
  have k4' := h4
  have k5' := h5
  have k6' := h6
  obtain ⟨cs0, rfl, _⟩ := okWide_struct Tryz.underlying24 (hval 0 24 v0 rfl rfl)
  obtain ⟨m0, hm0⟩ := h0
  obtain ⟨s0, a0, n0, c0, e0, S0⟩ := open_store (cs := cs0.toList) (by simpa [Value.cells] using hm0)
  obtain rfl : cs0 = (stC s0 a0 n0 c0).toArray := by rw [← e0]
  clear hm0 e0
  obtain ⟨x1, rfl⟩ := okWide_int Tryz.underlying3 (hval 1 3 v1 rfl rfl)
  obtain ⟨m1, hm1⟩ := h1
  obtain ⟨x1', e1, i1⟩ := open_int1 (cs := [.int .i64 x1]) (by simpa [Value.cells] using hm1)
  obtain rfl : x1 = x1' := by simpa using e1
  clear hm1 e1
  obtain ⟨a2, n2, c2, rfl⟩ := okWide_slice Tryz.underlying36 (hval 2 36 v2 rfl rfl)
  obtain ⟨m2, hm2⟩ := h2
  obtain ⟨_, _, _, l2, e2, S2⟩ := open_ents (cs := [.slice a2 n2 c2]) (by simpa [Value.cells] using hm2)
  simp only [List.cons.injEq, Value.slice.injEq, and_true] at e2
  obtain ⟨rfl, rfl, rfl⟩ := e2
  clear hm2
  obtain ⟨x3, rfl⟩ := okWide_int Tryz.underlying3 (hval 3 3 v3 rfl rfl)
  obtain ⟨m3, hm3⟩ := h3
  obtain ⟨x3', e3, i3⟩ := open_int1 (cs := [.int .i64 x3]) (by simpa [Value.cells] using hm3)
  obtain rfl : x3 = x3' := by simpa using e3
  clear hm3 e3
  obtain ⟨cs4, rfl, _⟩ := okWide_struct Tryz.underlying47 (hval 4 47 v4 rfl rfl)
  obtain ⟨m4, hm4⟩ := h4
  obtain ⟨st4, fo4, no4, Rh4, Sh4, D4, e4, ok4⟩ := open_head (cs := cs4.toList) (by simpa [Value.cells] using hm4)
  obtain rfl : cs4 = (headC st4 fo4 no4 D4 Rh4 Sh4).toArray := by rw [← e4]
  clear hm4 e4
  obtain ⟨x5, rfl⟩ := okWide_int Tryz.underlying3 (hval 5 3 v5 rfl rfl)
  obtain ⟨m5, hm5⟩ := h5
  obtain ⟨x5', e5, i5⟩ := open_int1 (cs := [.int .i64 x5]) (by simpa [Value.cells] using hm5)
  obtain rfl : x5 = x5' := by simpa using e5
  clear hm5 e5
  obtain ⟨a6, n6, c6, rfl⟩ := okWide_slice Tryz.underlying33 (hval 6 33 v6 rfl rfl)
  obtain ⟨m6, hm6⟩ := h6
  obtain ⟨_, _, _, l6, e6, S6⟩ := open_bytes' (cs := [.slice a6 n6 c6]) (by simpa [Value.cells] using hm6)
  simp only [List.cons.injEq, Value.slice.injEq, and_true] at e6
  obtain ⟨rfl, rfl, rfl⟩ := e6
  clear hm6
  have hT := tabs_of_laid hL
  clear hA0 hval0
  refine (sss_walk s0 a0 n0 c0 x1 i1 a2 n2 c2 l2 x3 i3 st4 fo4 no4 Rh4 Sh4 D4 ok4 x5 i5 a6 n6 c6 l6 W hT S0 S2 S6).mono fun e W' ⟨he, bel⟩ => ?_
  subst he
  exact ⟨_, rfl, _, _, _, [], _, [], hW', trodAll_mk1 (shut_bool Tryz.underlying4 _),
    (trodAll_cons_mk (Below.trod laidOut (by kernel_rfl) (of_decide_eq_true (by kernel_rfl)) k0' bel lt0) (trodAll_cons_mk (Below.trod laidOut (by kernel_rfl) (of_decide_eq_true (by kernel_rfl)) k1' bel lt1) (trodAll_cons_mk (Below.trod laidOut (by kernel_rfl) (of_decide_eq_true (by kernel_rfl)) k2' bel lt2) (trodAll_cons_mk (Below.trod laidOut (by kernel_rfl) (of_decide_eq_true (by kernel_rfl)) k3' bel lt3) (trodAll_cons_mk (Below.trod laidOut (by kernel_rfl) (of_decide_eq_true (by kernel_rfl)) k4' bel lt4) (trodAll_cons_mk (Below.trod laidOut (by kernel_rfl) (of_decide_eq_true (by kernel_rfl)) k5' bel lt5) (trodAll_cons_mk (Below.trod laidOut (by kernel_rfl) (of_decide_eq_true (by kernel_rfl)) k6' bel lt6) trodAll_mk0))))))), rfl, bel.frame _, fun h => by cases h⟩

theorem over : Rows.StoreSignSpecSaid :=
  OpenClaim.holds_of_wide 5 Tryz.f5 rfl rfl rfl rfl rfl rfl rfl ⟨rfl, rfl, rfl, rfl, rfl⟩ rfl rfl rfl rfl rfl (by kernel_rfl) Tryz.func5 (by kernel_rfl)
    (of_decide_eq_true (by kernel_rfl)) (by unfold Func.isWrapper; first | (rw [if_pos (by decide +kernel)]; kernel_rfl) | (rw [if_neg (by decide +kernel)]; exact ⟨rfl, rfl⟩))
    (fun os started H enc _ => lifted os started H enc)

theorem proved : Rows.StoreSignSpecCardSaid :=
  Claim7.holds_tied_plain_at .later [] [.data, .data] true (true, "0e71b2c2558acfe1f4ed3f440e2dab26401bb835ffca5b2d0e5c9d75e6479122") false
    over (fun _ h => by cases h) (by kernel_rfl) (fun _ h => by cases h) storeSignSpec_row_tie rfl ⟨rfl, rfl⟩ (by kernel_rfl) rfl
    (fun f fn hf hfn => by
      obtain rfl : f = 5 := Option.some.inj ((show Tryz.prog.funcNamed "chartroom/chartroomlaw30.StoreSignSpec" = some 5 by kernel_rfl).symm.trans hf) |>.symm
      obtain rfl : fn = Tryz.f5 := (Option.some.inj (Tryz.func5.symm.trans hfn)).symm
      exact ⟨by kernel_rfl, fun j t ht => by
        rw [Tryz.params5] at ht
        have hm : t ∈ [24, 3, 36, 3, 47, 3, 33] := by simpa using Array.mem_of_getElem? ht
        have hall : ([24, 3, 36, 3, 47, 3, 33].all fun u => !Tryz.prog.wantsStandIn u) = true := by kernel_rfl
        exact (show Tryz.prog.wantsStandIn t = false by simpa using List.all_eq_true.1 hall t hm)⟩)
    (by kernel_rfl)
#print axioms proved
end Go.Proofs.YtlpgjdlkjahdgaaGreatDoor.lawSSignSpec

