/- store.Sign the reference's Same and SameEntries, of equal values -/
import Derived.Test.YtnonfdcbnkdmcaaGreatDoorAl
import Derived.Test.YtnonfdcbnkdmcaaGreatDoorRgA
import Derived.Test.YtnonfdcbnkdmcaaGreatDoorSve
import Derived.Test.YtnonfdcbnkdmcaaGreatDoorStA
import Derived.Test.YtnonfdcbnkdmcaaGreatDoorFin
import Derived.Test.YtnonfdcbnkdmcaaGreatDoorLst
import Derived.Laws.BytesArg
import Derived.Laws.BytesString
import Derived.BigQuiet
namespace Go
variable {P : Program}
theorem wpList_build_run {ops : Array Oper} {rest : List Oper} {op : Oper} {a : Act} {w : World} {Q : Exit → Act → World → Prop} {v : Value} (hgd : op.guard = none) (t : TypeId) (parts : Array (Nat × Operand)) (ho : op.op = .build t parts) (ps : Array (Nat × Value)) (hp : (parts.map fun (i, x) => (i, a.eval x)) = ps) (hr : (Instr.build t ps).run P w = .ok v w)
 (h : wpList P ops Q rest (a.put op.dst v) w) : wpList P ops Q (op :: rest) a w :=
 wpList_plain hgd fun _ hK => by
  unfold Oper.wp execOp
  simp only [ho, hp, Sem.run_bind, hr, Result.andThen_ok, Sem.run_pure]
  exact hK _ _ h
end Go
namespace Go.Proofs.YtnonfdcbnkdmcaaGreatDoor
open Go.RowKit Go.Mem
open Go.Sto (Ent Lg St)

def signHd (s : St) (f : Int) (n : Nat) (ds : List (List Nat)) : List Value :=
 headC s.id f n (chainD f ds) (signK 4 s.priv (headD s.id f n (chainD f ds))).1 (signK 4 s.priv (headD s.id f n (chainD f ds))).2.1
def zeroHd : List Value := headC 0 0 0 (List.replicate 32 0) 0 0
def SignHPost (r : List Value) (q : Int) (w : World) (e : Ending) (w' : World) : Prop := e = .returned (.tuple #[.agg r.toArray, .int .i64 q]) ∧ Below w.heap.size w w'

structure SghW (w : World) (sb : Nat) (s : St) (a : Option Addr) (n c : Nat) (wz : World) : Prop where
 st : Blk wz sb 24 (stC s a n c)
 hd : ∃ r : List Value, Blk wz (sb + 1) 36 r ∧ r.length = 37
 bel : Below w.heap.size w wz
section
variable {w wz wq : World} {sb n c : Nat} {s : St} {a : Option Addr}
theorem SghW.mk' (h : SghW w sb s a n c wz) : wz.cell? ⟨sb, 0, none⟩ = some (.int .i64 s.id) ∧ SghW w sb s a n c wz := ⟨h.st.at_ (i := 0) rfl, h⟩
theorem SghW.next (h : wz.cell? ⟨sb, 0, none⟩ = some (.int .i64 s.id) ∧ SghW w sb s a n c wz) (hb : Below wz.heap.size wz wq) : wq.cell? ⟨sb, 0, none⟩ = some (.int .i64 s.id) ∧ SghW w sb s a n c wq := by
 obtain ⟨r, hr, hl⟩ := h.2.hd
 exact SghW.mk' ⟨h.2.st.below hb h.2.st.lt, ⟨r, hr.below hb hr.lt, hl⟩, h.2.bel.trans (hb.mono h.2.bel.size)⟩
theorem SghW.stored {r : List Value} (h : wz.cell? ⟨sb, 0, none⟩ = some (.int .i64 s.id) ∧ SghW w sb s a n c wz) (hP : PutR 36 wz wq (sb + 1) 36 r) (hl : r.length = 37) (hs : w.heap.size ≤ sb) : wq.cell? ⟨sb, 0, none⟩ = some (.int .i64 s.id) ∧ SghW w sb s a n c wq :=
 SghW.mk' ⟨h.2.st.grown hP.grown (fun e => by cases e), ⟨r, hP.blk, hl⟩, below_grown h.2.bel hP.grown h.2.bel.size (by omega)⟩
theorem SghW.alloc (h : wz.cell? ⟨sb, 0, none⟩ = some (.int .i64 s.id) ∧ SghW w sb s a n c wz) (o : Obj) : (wz.alloc o).cell? ⟨sb, 0, none⟩ = some (.int .i64 s.id) ∧ SghW w sb s a n c (wz.alloc o) := SghW.next h ((Below.refl _ wz).alloc (Nat.le_refl _) o)
end
structure SigP (W W9 : World) (g : Nat) (R S : Int) (q : List Value) : Prop where
 there : W.there g 35 2
 eq : W9 = W.setCells g 35 [.int .i64 R, .int .i64 S]
 blk : Blk W9 g 36 q
 grown : W.grownBy W9 (some g)
theorem put_sig {W : World} {g : Nat} {st fo no R0 S0 : Int} {D : List Nat} (hD : D.length = 32) (h : Blk W g 36 (headC st fo no D R0 S0)) (R S : Int) : ∃ W9, SigP W W9 g R S (headC st fo no D R S) := by
 refine ⟨_, ?_, rfl, ?_, grown_setCells _ (World.grownBy.refl W _)⟩
 · intro j hj
   refine ⟨?_, h.frozen _⟩
   have hl : (headC st fo no D R0 S0).length = 37 := by simp [headC, bv_length, hD]
   rw [h.at_ (List.getElem?_eq_getElem (i := 35 + j) (by omega))]
   rfl
 · have e : ∀ R S : Int, headC st fo no D R S = ([.int .i64 st, .int .i64 fo, .int .i64 no] ++ bv D) ++ [.int .i64 R, .int .i64 S] ++ [] := by intro R S; simp [headC]
   have h' := Blk.setCells [.int .i64 R, .int .i64 S] (pre := [.int .i64 st, .int .i64 fo, .int .i64 no] ++ bv D) (mid := [.int .i64 R0, .int .i64 S0]) (post := []) (by rw [← e R0 S0]; exact h) rfl
   rw [← e R S] at h'
   rw [show ([.int .i64 st, .int .i64 fo, .int .i64 no] ++ bv D : List Value).length = 35 by simp [bv_length, hD]] at h'
   exact h'
section
variable {w wz wq : World} {sb n c : Nat} {s : St} {a : Option Addr}
theorem SghW.mk1 (h : SghW w sb s a n c wz) : wz.cell? ⟨sb, 1, none⟩ = some (.int .i64 s.priv) ∧ SghW w sb s a n c wz := ⟨h.st.at_ (i := 1) rfl, h⟩
theorem SghW.next1 (h : wz.cell? ⟨sb, 1, none⟩ = some (.int .i64 s.priv) ∧ SghW w sb s a n c wz) (hb : Below wz.heap.size wz wq) : wq.cell? ⟨sb, 1, none⟩ = some (.int .i64 s.priv) ∧ SghW w sb s a n c wq :=
 SghW.mk1 (SghW.next (SghW.mk' h.2) hb).2
theorem SghW.sig1 {R S : Int} {q : List Value} (h : wz.cell? ⟨sb, 1, none⟩ = some (.int .i64 s.priv) ∧ SghW w sb s a n c wz) (hP : SigP wz wq (sb + 1) R S q) (hl : q.length = 37) (hs : w.heap.size ≤ sb) : wq.cell? ⟨sb, 1, none⟩ = some (.int .i64 s.priv) ∧ SghW w sb s a n c wq :=
 SghW.mk1 ⟨h.2.st.grown hP.grown (fun e => by cases e), ⟨q, hP.blk, hl⟩, below_grown h.2.bel hP.grown h.2.bel.size (by omega)⟩
end
theorem sgh_ret {W : World} {g : Nat} {r : List Value} {q : Int} (hB : Blk W g 36 r) (hrl : r.length = 37) {a : Act} (hp : a.tmps.getD 6 undef = .pointer (some ⟨g, 0, none⟩)) (hq : a.tmps.getD 7 undef = .int .i64 q) (hd : a.defers = []) {Post : Ending → World → Prop} (hP : Post (.returned (.tuple #[.agg r.toArray, .int .i64 q])) W) :
 bodyPost Tryz.prog Tryz.f38 Post .ret a W := by
 refine bodyPost_ret (v := .tuple #[.agg r.toArray, .int .i64 q]) ?_ hd hP
 rw [results_cell_tmp rfl, hp, hq]
 have hl := run_loadVar_row (P := Tryz.prog) W g 36 36 r.toArray (0, 0) _ hB Tryz.underlying36 rfl (by rw [List.size_toArray, hrl]; exact sizeH)
 simp only [asAddr, Sem.run_pure, Result.andThen_ok, hl]
theorem chain_len (f : Int) (ds : List (List Nat)) : (chainD f ds).length = 32 ∧ ∀ u ∈ chainD f ds, u < 256 := by
 unfold chainD
 have h0 : (logD f).length = 32 ∧ ∀ u ∈ logD f, u < 256 := ⟨Sha.tagged_length _ _, Sha.tagged_lt _ _⟩
 generalize logD f = x at h0 ⊢
 induction ds generalizing x with
 | nil => exact h0
 | cons d r ih => exact ih _ ⟨Sha.tagged_length _ _, Sha.tagged_lt _ _⟩
theorem head_range (g : Nat → Nat) (i f n : Int) (W : World) :
 (Instr.build 36 #[(0, .int .i64 i), (1, .int .i64 f), (2, .int .i64 n), (3, .agg (bv ((List.range 32).map g)).toArray)]).run Tryz.prog W = .ok (.agg (headC i f n ((List.range 32).map g) 0 0).toArray) W := run_build W _ _ _ (by kernel_rfl)
theorem head_build {d : List Nat} (h : d.length = 32) (i f n : Int) (W : World) :
 (Instr.build 36 #[(0, .int .i64 i), (1, .int .i64 f), (2, .int .i64 n), (3, .agg (bv d).toArray)]).run Tryz.prog W = .ok (.agg (headC i f n d 0 0).toArray) W := by
 rw [as_range h]
 exact head_range _ i f n W

set_option maxRecDepth 20000 in
set_option maxHeartbeats 4000000 in
theorem storeSign_any (a : Option Addr) (n c : Nat) (s : St) (f : Int) (hf : I64 f) (KE : Nat → Prop) (ea : Option Addr) (en ec : Nat) (es : List Ent) (hok : ∀ e ∈ es, OkE e) (hen : en ≤ 65536) (w : World) (HT : Tabs w) (H : SV (fun _ => True) w a n c s) (HE : ES KE w ea en ec es) (hop0 : Sto.openE s f = 0) :
 Calls Tryz.prog 38 #[.agg #[.int .i64 s.id, .int .i64 s.priv, .slice a n c], .int .i64 f, .slice ea en ec] w (SignHPost (signHd s f en (es.map (·.dig))) 0 w) := by
 have HT' := Lib.hid HT; have H' := Lib.hid H; have HE' := Lib.hid HE
 clear HT H HE
 obtain ⟨sb, hsb⟩ : ∃ sb, Hid (w.heap.size = sb) := ⟨_, rfl⟩
 have hlen := HE'.out.rs.len
 have e0 : (0 : Int) ≤ (en : Int) := by omega
 have e1 : (en : Int) ≤ 65536 := by omega
 obtain ⟨W1, hW1⟩ : ∃ W1, W1 = (w.alloc (.cells #[.int .i64 s.id, .int .i64 s.priv, .slice a n c] 24)).alloc (.cells zeroHd.toArray 36) := ⟨_, rfl⟩
 have hB1 : Hid (Blk W1 sb 24 (stC s a n c)) := by rw [hW1, ← hsb.out]; exact (Blk.new w _ (stC s a n c)).alloc _
 have hB2 : Hid (Blk W1 (sb + 1) 36 zeroHd) := by
  have h := Blk.new (w.alloc (.cells #[.int .i64 s.id, .int .i64 s.priv, .slice a n c] 24)) 36 zeroHd
  rw [show (w.alloc (.cells #[.int .i64 s.id, .int .i64 s.priv, .slice a n c] 24)).heap.size = sb + 1 by rw [← hsb.out]; simp] at h
  rw [hW1]; exact h
 have hb1 : Hid (Below w.heap.size w W1) := by rw [hW1]; exact ((Below.refl _ w).alloc (Nat.le_refl _) _).alloc (by simp) _
 have hop := Lib.hid (open_any (fun _ => True) a n c s f W1 (HT'.out.below hb1.out) (H'.out.below hb1.out))
 have b0 := hB1.out.at_ (i := 0) rfl
 have b1 := hB1.out.at_ (i := 1) rfl
 have b2 := hB1.out.at_ (i := 2) rfl
 have hcl2 := chain_len f (es.map (·.dig))
 obtain ⟨D, hD⟩ : ∃ D, Hid (chainD f (es.map (·.dig)) = D) := ⟨_, rfl⟩
 have hchn := Lib.hid (fun da dc W hT hDS => storeChain_any f hf da en dc (es.map (·.dig)) W hT hDS)
 rw [hD.out] at hcl2 hchn
 have hcl := hcl2.1
 obtain ⟨M, hM⟩ : ∃ M, Hid (headD s.id f en D = M) := ⟨_, rfl⟩
 obtain ⟨SV, hSV⟩ : ∃ V, Hid (signK 4 s.priv M = V) := ⟨_, rfl⟩
 have hM32 : Hid (M.length = 32 ∧ ∀ u ∈ M, u < 256) := by rw [← hM.out]; exact ⟨Sha.tagged_length _ _, Sha.tagged_lt _ _⟩
 have hmsg := Lib.hid (fun W h => message_any s.id f en 0 0 D H'.out.id hf ⟨by omega, by omega⟩ hcl2 W h)
 have hsgn := Lib.hid (fun W mb (hT : Tabs W) (hB : BS W (some ⟨mb, 0, none⟩) 32 32 M) => Sign_any s.priv H'.out.priv (some ⟨mb, 0, none⟩) 32 32 M W hT hB (by omega))
 rw [hM.out] at hmsg
 rw [hSV.out] at hsgn
 obtain ⟨SR, SS, SE⟩ := SV
 obtain ⟨q, hq⟩ : ∃ q, Hid (headC s.id f en D SR SS = q) := ⟨_, rfl⟩
 have hql : q.length = 37 := by rw [← hq.out]; simp [headC, bv_length, hcl]
 have hfin : Hid (signHd s f en (es.map (·.dig)) = q) := by
  show _ = _
  unfold signHd
  rw [hD.out, hM.out, hSV.out, hq.out]
 rw [hfin.out]
 obtain ⟨r, hr⟩ : ∃ r, Hid (headC s.id f en D 0 0 = r) := ⟨_, rfl⟩
 have hrl : r.length = 37 := by rw [← hr.out]; simp [headC, bv_length, hcl]
 have hsig := Lib.hid (fun W (h : Blk W (sb + 1) 36 (headC s.id f en D 0 0)) => put_sig hcl h SR SS)
 rw [hq.out, hr.out] at hsig
 rw [hr.out] at hmsg
 have hone7 : ∀ u ∈ r, u.oneCell' = true := (HeadR.mk hr.out hcl).one
 have hbd := Lib.hid (fun W => head_build hcl s.id f (en : Int) W)
 rw [hr.out] at hbd
 have hu := Tryz.underlying36
 have hri : (Tryz.prog.info? 36).map (·.size) = some r.length := by rw [hrl]; exact sizeH
 have hqi : (Tryz.prog.info? 36).map (·.size) = some q.length := by rw [hql]; exact sizeH
 have hsz : Hid ((Tryz.prog.info? 34).map (·.size) = some (#[Value.int .i64 SR, Value.int .i64 SS] : Array Value).size) := by show _ = some 2; kernel_rfl
 have hone9 : ∀ u ∈ q, u.oneCell' = true := (HeadR.mk hq.out hcl).one
 clear hM hSV hq hD hr hfin
 go_enter Tryz.func38, Tryz.ntmps38
 go_upto_region 1 with fail
 rw [hsb.out]
 generalize hg : World.alloc (World.alloc w _) _ = Wg
 obtain rfl : W1 = Wg := by rw [← hg, hW1]; rfl
 clear hg hW1
 go_wp2_with fail
 refine hop.out.mono ?_
 rintro e w2 ⟨hb2, ⟨_, bb, rfl, _⟩ | ⟨h, _⟩⟩
 case inr => exact absurd hop0 h
 have hT2 := hB1.out.below hb2 hB1.out.lt
 have hH2 := Lib.hid (hB2.out.below hb2 hB2.out.lt)
 have hbw := Lib.hid (hb1.out.trans (hb2.mono hb1.out.size))
 have c0 := hT2.at_ (i := 0) rfl
 have c1 := hT2.at_ (i := 1) rfl
 have c2 := hT2.at_ (i := 2) rfl
 have hT2' := Lib.hid hT2
 clear hop b0 b1 b2 hB1 hB2 hb1 hb2 hT2
 go_wp2_with fail
 refine wp_region_held_drew (S := fun wz => wz.cell? ⟨sb, 0, none⟩ = some (.int .i64 s.id) ∧ SghW w sb s a n c wz) (by kernel_rfl) (SghW.mk' ⟨hT2'.out, ⟨zeroHd, hH2.out, by simp [zeroHd, headC, bv_length]⟩, hbw.out.drew⟩) (fun hHeld => ?_)
 refine tG 0 (v := ?_) rfl (Or.inl ⟨by rfl, ?_⟩) hHeld ?_
 rotate_left
 · intro wz hSw
   (try dsimp only at hSw)
   go_simp
   all_goals (with_reducible rfl)
 try simp only [Act.put, sA, s0, s1]
 refine tG 1 (v := ?_) rfl (Or.inl ⟨by rfl, ?_⟩) hHeld ?_
 rotate_left
 · intro wz hSw
   (try dsimp only at hSw)
   go_simp
   all_goals (with_reducible rfl)
 try simp only [Act.put, sA, s0, s1]
 refine tG 2 (v := ?_) rfl (Or.inl ⟨by rfl, ?_⟩) hHeld ?_
 rotate_left
 · intro wz hSw
   (try dsimp only at hSw)
   go_simp
   all_goals (with_reducible rfl)
 try simp only [Act.put, sA, s0, s1]
 refine tG 3 (v := ?_) rfl (Or.inl ⟨by rfl, ?_⟩) hHeld ?_
 rotate_left
 · intro wz hSw
   (try dsimp only at hSw)
   go_simp
   all_goals (with_reducible rfl)
 try simp only [Act.put, sA, s0, s1]
 refine tG 4 (v := ?_) rfl (Or.inl ⟨by rfl, ?_⟩) hHeld ?_
 rotate_left
 · intro wz hSw
   (try dsimp only at hSw)
   go_simp
   all_goals (with_reducible rfl)
 try simp only [Act.put, sA, s0, s1]
 refine tG 5 (v := ?_) rfl (Or.inl ⟨by rfl, ?_⟩) hHeld ?_
 rotate_left
 · intro wz hSw
   (try dsimp only at hSw)
   go_simp
   all_goals (with_reducible rfl)
 try simp only [Act.put, sA, s0, s1]
 refine tG 6 (v := ?_) rfl (Or.inl ⟨by rfl, ?_⟩) hHeld ?_
 rotate_left
 · intro wz hSw
   (try dsimp only at hSw)
   go_simp
   all_goals (with_reducible rfl)
 try simp only [Act.put, sA, s0, s1]
 refine tO 7 rfl (fun K hK => ?_)
 go_simp
 go_at_call 82
 refine (digests_any ea en ec _).mono ?_
 rintro e w4 ⟨rfl, rfl⟩
 refine hK.out _ _ (SghW.alloc hHeld _) (fun hHeld => ?_)
 clear hK K
 try simp only [Act.put, sA, s0, s1]
 refine tO 8 rfl (fun K hK => ?_)
 go_simp
 go_at_call 81
 refine (collect_any _ en ec ea KE es hok _ (by simp) (HE'.out.below hHeld.2.bel) ((Blk.new _ _ [.slice ea en ec]).at_ (i := 0) rfl)).mono ?_
 rintro e w5 ⟨da, dc, rfl, hD5, hb5⟩
 refine hK.out _ _ (SghW.next hHeld hb5) (fun hHeld => ?_)
 clear hK K
 try simp only [Act.put, sA, s0, s1]
 refine tO 9 rfl (fun K hK => ?_)
 go_simp
 go_at_call 80
 refine (hchn.out da dc w5 (HT'.out.below hHeld.2.bel) (by have := hD5; rwa [List.length_map, hlen] at this)).mono ?_
 rintro e w6 ⟨rfl, hb6⟩
 refine hK.out _ _ (SghW.next hHeld hb6) (fun hHeld => ?_)
 clear hK K
 try simp only [Act.put, sA, s0, s1]
 refine tU 10 rfl #[(0, .int .i64 s.id), (1, .int .i64 f), (2, .int .i64 (en : Int)), (3, .agg (bv D).toArray)] hbd.out hHeld ?_
 obtain ⟨r0, hr0, hl0⟩ := hHeld.2.hd
 obtain ⟨W7, hP⟩ := put_row (ty := 36) hr0 (x := r) (by rw [hrl, hl0]) (by rw [hrl]; exact sizeH) hone7
 have hS7 := SghW.stored hHeld hP hrl (Nat.le_of_eq hsb.out)
 have hP' := Lib.hid hP
 refine tO 11 rfl (fun K hK => ?_)
 refine wp_store_mid 36 (.tmp 6) (.tmp 34) rfl (sb + 1) 0 r.toArray (by rfl) (by rfl) hP'.out.there hP'.out.info (by simpa using hP'.out.one) ?_
 generalize hWq : World.setCells _ _ _ _ = Wa
 obtain rfl : W7 = Wa := by rw [← hWq]; exact hP'.out.eq
 clear hWq
 refine hK.out _ _ hS7 (fun hHeld => ?_)
 clear hK K
 try simp only [Act.put]
 refine wpAnyH_done (by kernel_rfl) ?_ _
 have hW7 := Lib.hid (show SghW w sb s a n c W7.drew from ⟨hHeld.2.st, ⟨r, hP'.out.blk, hrl⟩, hHeld.2.bel.drew⟩)
 have hBr7 := Lib.hid (show Blk W7.drew (sb + 1) 36 r from hP'.out.blk)
 clear hHeld hP' hP hS7 hr0 hl0
 go_wp2_with fail
 refine wp_region_held_drew (S := fun wz => wz.cell? ⟨sb, 1, none⟩ = some (.int .i64 s.priv) ∧ SghW w sb s a n c wz) (by kernel_rfl) (SghW.mk1 hW7.out) (fun hHeld => ?_)
 refine tG 0 (v := ?_) rfl (Or.inl ⟨by rfl, ?_⟩) hHeld ?_
 rotate_left
 · intro wz hSw
   (try dsimp only at hSw)
   go_simp
   all_goals (with_reducible rfl)
 try simp only [Act.put, sA, s0, s1]
 refine tG 1 (v := ?_) rfl (Or.inl ⟨by rfl, ?_⟩) hHeld ?_
 rotate_left
 · intro wz hSw
   (try dsimp only at hSw)
   go_simp
   all_goals (with_reducible rfl)
 try simp only [Act.put, sA, s0, s1]
 refine tO 2 rfl (fun K hK => ?_)
 refine wp_load_mid 36 (.tmp 6) rfl (sb + 1) 0 rfl r _ hBr7.out.range hu rfl hri ?_
 refine hK.out _ _ hHeld (fun hHeld => ?_)
 clear hK K
 try simp only [Act.put, sA, s0, s1]
 refine tO 3 rfl (fun K hK => ?_)
 go_simp
 go_at_call 84
 refine (hmsg.out _ (HT'.out.below hHeld.2.bel)).mono ?_
 rintro e w8 ⟨mb, rfl, hm8, hb8⟩
 have hBr8 := hBr7.out.below hb8 hBr7.out.lt
 refine hK.out _ _ (SghW.next1 hHeld hb8) (fun hHeld => ?_)
 clear hK K
 try simp only [Act.put, sA, s0, s1]
 refine tO 4 rfl (fun K hK => ?_)
 go_simp
 go_at_call 83
 refine (hsgn.out _ mb (HT'.out.below hHeld.2.bel) (dig_bs hM32.out hm8)).mono ?_
 rintro e w9 ⟨rfl, hb9⟩
 have hBr9 := hBr8.below hb9 hBr8.lt
 refine hK.out _ _ (SghW.next1 hHeld hb9) (fun hHeld => ?_)
 clear hK K
 refine tG 5 (v := ?_) rfl (Or.inl ⟨by rfl, ?_⟩) hHeld ?_
 rotate_left
 · intro wz hSw
   (try dsimp only at hSw)
   go_simp
   all_goals (with_reducible rfl)
 try simp only [Act.put, sA, s0, s1]
 refine tG 6 (v := ?_) rfl (Or.inl ⟨by rfl, ?_⟩) hHeld ?_
 rotate_left
 · intro wz hSw
   (try dsimp only at hSw)
   go_simp
   all_goals (with_reducible rfl)
 try simp only [Act.put, sA, s0, s1]
 refine tG 7 (v := ?_) rfl (Or.inl ⟨by rfl, ?_⟩) hHeld ?_
 rotate_left
 · intro wz hSw
   (try dsimp only at hSw)
   go_simp
   all_goals (with_reducible rfl)
 try simp only [Act.put, sA, s0, s1]
 refine tG 8 (v := ?_) rfl (Or.inl ⟨by rfl, ?_⟩) hHeld ?_
 rotate_left
 · intro wz hSw
   (try dsimp only at hSw)
   go_simp
   all_goals (with_reducible rfl)
 try simp only [Act.put, sA, s0, s1]
 refine tO 9 rfl (fun K hK => ?_)
 obtain ⟨W10, hP10⟩ := hsig.out _ hBr9
 have hP11 := Lib.hid hP10
 refine wp_store_mid 34 (.tmp 43) (.tmp 41) rfl (sb + 1) 35 #[.int .i64 SR, .int .i64 SS] (by rfl) (by rfl) hP11.out.there hsz.out (by rw [List.all_toArray]; rfl) ?_
 generalize hWq : World.setCells _ _ _ _ = Wa
 obtain rfl : W10 = Wa := by rw [← hWq]; exact hP11.out.eq
 clear hWq
 refine hK.out _ _ (SghW.sig1 hHeld hP11.out hql (Nat.le_of_eq hsb.out)) (fun hHeld => ?_)
 clear hK K
 try simp only [Act.put]
 refine wpAnyH_done (by kernel_rfl) ?_ _
 have hBq := Lib.hid hP11.out.blk
 have hbq := hHeld.2.bel
 obtain ⟨W12, hP12⟩ := put_row (ty := 36) hBq.out (x := q) rfl (by rw [hql]; exact sizeH) hone9
 have hP13 := Lib.hid hP12
 have hbq12 := Lib.hid (below_grown hbq hP13.out.grown hbq.size (by have := hsb.out; omega))
 have hrq := hBq.out.range
 go_wp2_with (first
  | (refine wpList_load_mid (by rfl) 36 (.tmp 6) (by rfl) (sb + 1) 0 (by rfl) q _ hrq hu (by rfl) hqi ?_)
   | (refine wpList_store_mid (by rfl) 36 (.tmp 6) (.tmp 44) (by rfl) (sb + 1) 0 q.toArray (by rfl) (by rfl) hP13.out.there hP13.out.info (by simpa using hP13.out.one) ?_
      generalize hWq : World.setCells _ _ _ _ = Wa
      obtain rfl : W12 = Wa := by rw [← hWq]; exact hP13.out.eq
      clear hWq))
 refine sgh_ret hP13.out.blk hql rfl rfl rfl ?_
 exact ⟨rfl, hbq12.out⟩
end Go.Proofs.YtnonfdcbnkdmcaaGreatDoor
namespace Go
theorem quiet_load_mid {P : Program} {o : Oper} {a : Act} {w : World} {K : Act → Prop} (ty : TypeId) (x : Operand) (ho : o.op = .load ty x) (b off : Nat) (hx : a.eval x = .pointer (some ⟨b, off, none⟩)) (cs : List Value) (d : TypeDesc) (hc : w.rangeAt b off cs)
 (hu : P.underlying ty = some d) (hd : d.isRow = true) (hi : (P.info? ty).map (·.size) = some cs.length) (h : K (a.put o.dst (.agg cs.toArray))) : o.quiet P a (fun w' => ∃ m, w' = w.drewN m) K := by
 refine ⟨_, ?_, h⟩
 rintro w' ⟨m, rfl⟩
 unfold Oper.quietAt execOp
 simp only [ho, hx, Instr.loadAt, Instr.sureAddr, Sem.run_bind, Sem.run_pure, Result.andThen_ok, run_loadVar_mid (w.drewN m) b off ty cs d hc hu hd hi]
 exact ⟨rfl, rfl⟩
end Go
namespace Go.Proofs.YtnonfdcbnkdmcaaGreatDoor
open Go.RowKit Go.Mem
open Go.Sto (Ent Lg St)

theorem below_drewQ {B : Nat} {w w' : World} (h : Below B w w') (n : Nat) : Below B w (w'.drewN n) := ⟨h.os, h.tape, h.output, h.size, h.block⟩
def txtB (l : List Nat) : ByteArray := strOfNums (l.map fun (x : Nat) => (x : Int))
theorem bs_text {W : World} {a : Option Addr} {n c : Nat} {l : List Nat} (h : BW W a n c l) :
 (convert 71 9 (.slice a n c)).run Tryz.prog W = .ok (.string (txtB l)) W := by
 rcases h with h | ⟨rfl, _, rfl, _⟩
 case inr =>
  rw [run_convert_bytes_string W 71 9 5 _ 0 c Tryz.underlying71 Tryz.underlying5 Tryz.underlying9]
  cases a <;> simp [Conv.bytesToString, loadCells]
  all_goals rfl
 cases a with
 | none =>
  obtain ⟨rfl, rfl⟩ := h.nil rfl
  obtain rfl : l = [] := List.eq_nil_of_length_eq_zero h.len
  exact run_convert_bytes_nil (P := Tryz.prog) W 71 5 Tryz.underlying71 Tryz.underlying5 0 0 9 Tryz.underlying9
 | some ad =>
  obtain ⟨b, off, rfl, _, hx⟩ := h.cells ad rfl
  exact run_convert_bytes_arg (P := Tryz.prog) W 71 5 Tryz.underlying71 Tryz.underlying5 b off n c (l.map fun (x : Nat) => (x : Int)) (by simp [h.len]) (fun i hi => by
   have hi' : i < l.length := by rw [h.len]; exact hi
   rw [hx i l[i] (List.getElem?_eq_getElem hi')]
   simp [List.getD, List.getElem?_eq_getElem hi']) 9 Tryz.underlying9

structure EntR (w : World) (b o : Nat) (e : Ent) (a : Option Addr) (n c : Nat) : Prop where
 kind : w.cell? ⟨b, o, none⟩ = some (.int .i64 e.kind)
 dig : w.rangeAt b (o + 1) (bv e.dig)
 data : w.cell? ⟨b, o + 33, none⟩ = some (.slice a n c)
 gone : w.cell? ⟨b, o + 34, none⟩ = some (.bool e.gone)
theorem EntR.of {w : World} {b o : Nat} {e : Ent} {a : Option Addr} {n c : Nat} (h : w.rangeAt b o (entC e a n c)) (ho : e.dig.length = 32) : EntR w b o e a n c :=
 ⟨h 0 _ (entC_kind e a n c), fun j v hv => by
  have hj := (List.getElem?_eq_some_iff.1 hv).1
  rw [bv_length] at hj
  rw [bv_get (List.getElem?_eq_getElem hj)] at hv
  cases hv
  have := h _ _ (entC_dig (List.getElem?_eq_getElem hj) a n c)
  rw [show o + 1 + j = o + (j + 1) by omega]
  exact this, h _ _ (entC_data ho a n c), h _ _ (entC_gone ho a n c)⟩

theorem LS.get {K : Nat → Prop} {w : World} {a : Option Addr} {n c : Nat} {l : List Lg} (h : LS K w a n c l) {k : Nat} {x : Lg} (he : l[k]? = some x) :
 ∃ b off ea en ec, a = some ⟨b, off, none⟩ ∧ I64 x.folder ∧ w.cell? ⟨b, off + k * 2, none⟩ = some (.int .i64 x.folder) ∧ w.cell? ⟨b, off + k * 2 + 1, none⟩ = some (.slice ea en ec) ∧ ES K w ea en ec x.es := by
 obtain ⟨b, off, r, e, _, _, ⟨hf, ea, en, ec, rfl, hE⟩, _, hr⟩ := h.rs.get he
 exact ⟨b, off, ea, en, ec, e, hf, hr 0 _ rfl, hr 1 _ rfl, hE⟩

end Go.Proofs.YtnonfdcbnkdmcaaGreatDoor

