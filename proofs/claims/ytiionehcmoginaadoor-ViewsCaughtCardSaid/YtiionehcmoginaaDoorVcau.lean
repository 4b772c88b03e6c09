/- the walk of ViewsCaught -/
import Derived.Test.YtiionehcmoginaaDoorVsg
import Derived.Test.YtiionehcmoginaaDoorCards
import Derived.Test.YtiionehcmoginaaDoorTie
import Derived.SevenTiedAt
import Derived.Deep.DeepHandedRow
import Derived.Deep.DeepWitnessRowRef
namespace Go
/-- a state that several ways reach is walked once. -/
theorem share {p G : Prop} (h : G → p) (key : G) : p := h key
end Go
namespace Go.Proofs.YtiionehcmoginaaDoor
open Go.RowKit Go.Mem Go.Shelf
open Go.Sto (Ent)
open Go.Vw (entT Hd Fk Sg proveV newV zeroF accV cmpV)

theorem vmN {st fo pub : Int} (h1 : I64 st) (h2 : I64 fo) (h3 : I64 pub) (W : World) : VM W (newV st fo pub) none 0 0 none 0 0 := ⟨h1, h2, h3, ds_nil _, HS.nil0 _, Nat.zero_le _⟩

set_option maxRecDepth 100000 in
set_option maxHeartbeats 40000000 in
theorem caught_walk (id : Int) (iid : I64 id) (pv : Int) (ipv : I64 pv) (fo : Int) (ifo : I64 fo) (ta : Option Addr) (tn tc : Nat) (l : List ByteArray) (ua : Option Addr) (un uc : Nat) (r : List ByteArray) (w : World) (HT : Tabs w)
    (HS : TxS w ta tn tc l) (HR : TxS w ua un uc r) (hsz : ∀ s ∈ l, s.size ≤ reachBytes) (hsr : ∀ s ∈ r, s.size ≤ reachBytes) :
    Calls Tryd.prog 4 #[.int .i64 id, .int .i64 pv, .int .i64 fo, .slice ta tn tc, .slice ua un uc] w (RetBo true w) := by
  have HS' := Lib.hid HS; have HR' := Lib.hid HR; have HT' := Lib.hid HT; have hsz' := Lib.hid hsz; have hsr' := Lib.hid hsr
  have hlen := Lib.hid HS.len
  have hlenr := Lib.hid HR.len
  clear HS HR HT hsz hsr
  have hsa := Lib.hid (fun W hT => sane32_any W hT)
  have hop := Lib.hid (fun W => open32_any id pv fo ipv W)
  have hsh := Lib.hid (fun W H => short_any ta tn tc l W H hsz'.out)
  have hsi := Lib.hid (fun W H => short_any ua un uc r W H hsr'.out)
  obtain ⟨B, hB⟩ : ∃ B, Hid (OpenB id pv fo = B) := ⟨_, rfl⟩
  obtain ⟨C, hC⟩ : ∃ C, Hid (shortB l = C) := ⟨_, rfl⟩
  obtain ⟨E, hE⟩ : ∃ C, Hid (shortB r = C) := ⟨_, rfl⟩
  rw [hC.out] at hsh
  rw [hE.out] at hsi
  unfold Open32Post at hop
  rw [hB.out] at hop
  obtain ⟨X, hX⟩ : ∃ X, X = RetBo true w := ⟨_, rfl⟩
  have hfin : Hid (∀ W, Below w.heap.size w W → X (.returned (.bool true)) W) := fun W hb => by rw [hX]; exact ⟨rfl, hb⟩
  rw [← hX]
  clear hX
  go_enter Tryd.func4, Tryd.ntmps4
  go_wp2_with fail
  refine (hsa.out _ HT'.out).mono ?_
  rintro e w1 ⟨rfl, hb1⟩
  have hbw := Lib.hid hb1
  clear hb1 hsa
  go_wp2_with fail
  refine (hop.out _).mono ?_
  rintro e w2 ⟨i, p, q, rfl, hop2, hst⟩
  have hop3 := Lib.hid hop2
  clear hop hop2
  replace hbw := Lib.hid (hbw.out.trans (hst.mono hbw.out.size))
  clear hst
  obtain ⟨v2, hP⟩ : ∃ V, Hid (PutR 27 (w2.alloc (.cells ([.int .i64 0, .int .i64 0, .slice none 0 0] : List Value).toArray 27)) V w2.heap.size 27 ([.int .i64 i, .int .i64 p, .slice none 0 0])) := put_row (Blk.new w2 27 ([.int .i64 0, .int .i64 0, .slice none 0 0])) rfl (sizeS3) (by intro u hu; simp only [List.mem_cons, List.not_mem_nil, or_false] at hu; rcases hu with rfl | rfl | rfl <;> rfl)
  have hst := below_grown ((Below.refl _ w2).alloc (Nat.le_refl _) _) hP.out.grown (by simp) (Nat.le_refl _)
  replace hbw := Lib.hid (hbw.out.trans (hst.mono hbw.out.size))
  clear hst
  have hBs := Lib.hid hP.out.blk
  cases B with
  | false =>
    have hf := Lib.hid (hfin.out _ hbw.out)
    go_wp2_with (first
      | (refine wpList_store_mid (by rfl) 27 (.tmp 11) (.tmp 42) (by rfl) w2.heap.size 0 ([.int .i64 i, .int .i64 p, .slice none 0 0]).toArray (by rfl) (by rfl) hP.out.there hP.out.info (by simpa using hP.out.one) ?_
         generalize hWq : World.setCells _ _ _ _ = Wa
         obtain rfl : v2 = Wa := by rw [← hWq]; exact hP.out.eq
         clear hWq))
    exact hf.out
  | true =>
  obtain ⟨rfl, rfl, hpq0⟩ := hop3.out (by trivial)
  have hpq := Lib.hid hpq0
  clear hop3 hpq0
  go_wp2_with (first
    | (refine wpList_store_mid (by rfl) 27 (.tmp 11) (.tmp 42) (by rfl) w2.heap.size 0 ([.int .i64 i, .int .i64 p, .slice none 0 0]).toArray (by rfl) (by rfl) hP.out.there hP.out.info (by simpa using hP.out.one) ?_
       generalize hWq : World.setCells _ _ _ _ = Wa
       obtain rfl : v2 = Wa := by rw [← hWq]; exact hP.out.eq
       clear hWq))
  clear hP
  refine (hsh.out _ (HS'.out.below hbw.out)).mono ?_
  rintro e w3 ⟨rfl, hst⟩
  clear hsh
  replace hBs := Lib.hid (hBs.out.below hst hBs.out.lt)
  replace hbw := Lib.hid (hbw.out.trans (hst.mono hbw.out.size))
  clear hst
  cases C with
  | false =>
    have hf := Lib.hid (hfin.out _ hbw.out)
    go_wp2_with fail
    exact hf.out
  | true =>
  go_wp2_with fail
  refine (hsi.out _ (HR'.out.below hbw.out)).mono ?_
  rintro e w4 ⟨rfl, hst⟩
  clear hsi
  replace hBs := Lib.hid (hBs.out.below hst hBs.out.lt)
  replace hbw := Lib.hid (hbw.out.trans (hst.mono hbw.out.size))
  clear hst
  cases E with
  | false =>
    have hf := Lib.hid (hfin.out _ hbw.out)
    go_wp2_with fail
    exact hf.out
  | true =>
  go_wp2_with fail
  refine (ents_at hC.out _ (HT'.out.below hbw.out) (HS'.out.below hbw.out)).mono ?_
  rintro e w5 ⟨a14, c14, rfl, hE0, hst⟩
  have hEl := Lib.hid hE0
  clear hE0
  replace hBs := Lib.hid (hBs.out.below hst hBs.out.lt)
  replace hbw := Lib.hid (hbw.out.trans (hst.mono hbw.out.size))
  clear hst
  go_wp2_with fail
  refine (ents_at hE.out _ (HT'.out.below hbw.out) (HR'.out.below hbw.out)).mono ?_
  rintro e w6 ⟨a15, c15, rfl, hE0, hst⟩
  have hEm := Lib.hid hE0
  clear hE0
  replace hBs := Lib.hid (hBs.out.below hst hBs.out.lt)
  replace hEl := Lib.hid (hEl.out.below hst)
  replace hbw := Lib.hid (hbw.out.trans (hst.mono hbw.out.size))
  clear hst
  have h8l := (short_iff hC.out).1
  have h8r := (short_iff hE.out).1
  have t8 : tn ≤ 8 := by have := hlen.out; omega
  have u8 : un ≤ 8 := by have := hlenr.out; omega
  clear h8l h8r
  have hokl := Lib.hid (okE_ents hC.out)
  have hokm := Lib.hid (okE_ents hE.out)
  have henl := Lib.hid (Go.Vw.ents_ok l)
  have henm := Lib.hid (Go.Vw.ents_ok r)
  obtain ⟨es, hes⟩ : ∃ es, Hid (l.map entT = es) := ⟨_, rfl⟩
  obtain ⟨em, hem⟩ : ∃ es, Hid (r.map entT = es) := ⟨_, rfl⟩
  rw [hes.out] at hEl hokl henl
  rw [hem.out] at hEm hokm henm
  have lel := Lib.hid hEl.out.rs.len
  have lem := Lib.hid hEm.out.rs.len
  clear hes hem
  obtain ⟨hA, okA, sA, cA⟩ := sign_for (n := tn) (es := es) hB.out ifo (by omega) lel.out hokl.out
  obtain ⟨hZ, okZ, sZ, cZ⟩ := sign_for (n := un) (es := em) hB.out ifo (by omega) lem.out hokm.out
  obtain ⟨h1d, -, h2d, -⟩ := openB_iff hB.out
  have hpq64 : Hid (I64 q) := by
    have hbd := pubB_bd 4 p
    rw [← hpq.out] at hbd
    exact ⟨by omega, by omega⟩
  rw [← hpq.out] at sA sZ
  have sA' := Lib.hid sA; have cA' := Lib.hid cA; have sZ' := Lib.hid sZ; have cZ' := Lib.hid cZ
  have h1d' := Lib.hid h1d; have h2d' := Lib.hid h2d
  clear sA cA sZ cZ hpq h1d h2d
  have hPlm : Hid (∀ j, (es.take j).map (fun e : Ent => e.dig) = (es.map (fun e : Ent => e.dig)).take j) := fun j => List.map_take
  have hPmm : Hid (∀ j, (em.take j).map (fun e : Ent => e.dig) = (em.map (fun e : Ent => e.dig)).take j) := fun j => List.map_take
  have hPn : Hid ((es.map (fun e : Ent => e.dig)).length = tn) := by show _ = _; rw [List.length_map]; exact lel.out
  have hQn : Hid ((em.map (fun e : Ent => e.dig)).length = un) := by show _ = _; rw [List.length_map]; exact lem.out
  obtain ⟨P, hPP⟩ : ∃ P, Hid (es.map (fun e : Ent => e.dig) = P) := ⟨_, rfl⟩
  obtain ⟨Q, hQQ⟩ : ∃ P, Hid (em.map (fun e : Ent => e.dig) = P) := ⟨_, rfl⟩
  rw [hPP.out] at hPlm hPn sA'
  rw [hQQ.out] at hPmm hQn sZ'
  have dP : Hid (∀ j, (P.take j).length ≤ j) := fun j => by show _ ≤ _; rw [List.length_take]; omega
  obtain ⟨n, hn⟩ : ∃ n, Hid (min tn un = n) := ⟨_, rfl⟩
  have hn1 : n ≤ tn := by have := hn.out; omega
  have hn2 : n ≤ un := by have := hn.out; omega
  have hmin : min (tn : Int) (un : Int) = (n : Int) := by have := hn.out; omega
  have hsl := fun W => slice_h hEl.out hn1 W
  have hsm := fun W => slice_h hEm.out hn2 W
  have hSl := Lib.hid (hEl.out.take (k := n) hn1)
  have hSm := Lib.hid (hEm.out.take (k := n) hn2)
  have hcp := chain_len fo (P.take n)
  have hcq := chain_len fo (Q.take n)
  have heq := fun W => eq_digs hcp hcq W
  obtain ⟨b, hb⟩ : ∃ b, Hid (decide (chainD fo (P.take n) = chainD fo (Q.take n)) = b) := ⟨_, rfl⟩
  rw [hb.out] at heq
  have hdf : Hid (Go.Vw.differ fo P Q = !b) := by
    show _ = _
    unfold Go.Vw.differ
    rw [hPn.out, hQn.out, hn.out, ← hb.out]
    by_cases hc : chainD fo (P.take n) = chainD fo (Q.take n)
    · rw [decide_eq_true hc]; simp [hc]
    · rw [decide_eq_false hc]; simp [hc]
  clear hb hcp hcq
  go_upto_region 8 with fail
  clear hmin
  refine wp_region_held_drew (S := fun wz => Below w6.heap.size w6 wz) (by kernel_rfl) ((Below.refl _ w6).drew) (fun hHeld => ?_)
  refine wpAnyH_take (i := 0) (oi := { dst := some 66, op := Op.move (Operand.tmp 2), type := 3, pos := _, after := _, guard := none }) (v := ?_) rfl (by kernel_rfl) (by kernel_rfl) (by kernel_rfl) (fun _ _ _ h => h) (Or.inl ⟨by rfl, ?_⟩) hHeld ?_
  rotate_left
  · intro wz hSw
    go_simp
    all_goals (with_reducible rfl)
  try simp only [Act.put, List.setIfInBounds_toArray, List.set_cons_zero, List.set_cons_succ]
  refine wpAnyH_take (i := 1) (oi := { dst := some 67, op := Op.move (Operand.tmp 14), type := 31, pos := _, after := _, guard := none }) (v := ?_) rfl (by kernel_rfl) (by kernel_rfl) (by kernel_rfl) (fun _ _ _ h => h) (Or.inl ⟨by rfl, ?_⟩) hHeld ?_
  rotate_left
  · intro wz hSw
    go_simp
    all_goals (with_reducible rfl)
  try simp only [Act.put, List.setIfInBounds_toArray, List.set_cons_zero, List.set_cons_succ]
  refine wpAnyH_take (i := 2) (oi := { dst := some 68, op := Op.move (Operand.tmp 16), type := 3, pos := _, after := _, guard := none }) (v := ?_) rfl (by kernel_rfl) (by kernel_rfl) (by kernel_rfl) (fun _ _ _ h => h) (Or.inl ⟨by rfl, ?_⟩) hHeld ?_
  rotate_left
  · intro wz hSw
    go_simp
    all_goals (with_reducible rfl)
  try simp only [Act.put, List.setIfInBounds_toArray, List.set_cons_zero, List.set_cons_succ]
  refine wpAnyH_take (i := 3) (oi := { dst := some 69, op := Op.slice 31 (Operand.tmp 67) none (some (Operand.tmp 68)) none, type := 31, pos := _, after := _, guard := none }) (v := ?_) rfl (by kernel_rfl) (by kernel_rfl) (by kernel_rfl) (fun _ _ _ h => h) (Or.inl ⟨by rfl, ?_⟩) hHeld ?_
  rotate_left
  · intro wz hSw
    go_simp
    all_goals (with_reducible rfl)
  try simp only [Act.put, List.setIfInBounds_toArray, List.set_cons_zero, List.set_cons_succ]
  refine wpAnyH_take (i := 6) (oi := { dst := some 72, op := Op.move (Operand.tmp 2), type := 3, pos := _, after := _, guard := none }) (v := ?_) rfl (by kernel_rfl) (by kernel_rfl) (by kernel_rfl) (fun _ _ _ h => h) (Or.inl ⟨by rfl, ?_⟩) hHeld ?_
  rotate_left
  · intro wz hSw
    go_simp
    all_goals (with_reducible rfl)
  try simp only [Act.put, List.setIfInBounds_toArray, List.set_cons_zero, List.set_cons_succ]
  refine wpAnyH_take (i := 7) (oi := { dst := some 73, op := Op.move (Operand.tmp 15), type := 31, pos := _, after := _, guard := none }) (v := ?_) rfl (by kernel_rfl) (by kernel_rfl) (by kernel_rfl) (fun _ _ _ h => h) (Or.inl ⟨by rfl, ?_⟩) hHeld ?_
  rotate_left
  · intro wz hSw
    go_simp
    all_goals (with_reducible rfl)
  try simp only [Act.put, List.setIfInBounds_toArray, List.set_cons_zero, List.set_cons_succ]
  refine wpAnyH_take (i := 8) (oi := { dst := some 74, op := Op.move (Operand.tmp 16), type := 3, pos := _, after := _, guard := none }) (v := ?_) rfl (by kernel_rfl) (by kernel_rfl) (by kernel_rfl) (fun _ _ _ h => h) (Or.inl ⟨by rfl, ?_⟩) hHeld ?_
  rotate_left
  · intro wz hSw
    go_simp
    all_goals (with_reducible rfl)
  try simp only [Act.put, List.setIfInBounds_toArray, List.set_cons_zero, List.set_cons_succ]
  refine wpAnyH_take (i := 9) (oi := { dst := some 75, op := Op.slice 31 (Operand.tmp 73) none (some (Operand.tmp 74)) none, type := 31, pos := _, after := _, guard := none }) (v := ?_) rfl (by kernel_rfl) (by kernel_rfl) (by kernel_rfl) (fun _ _ _ h => h) (Or.inl ⟨by rfl, ?_⟩) hHeld ?_
  rotate_left
  · intro wz hSw
    go_simp
    all_goals (with_reducible rfl)
  try simp only [Act.put, List.setIfInBounds_toArray, List.set_cons_zero, List.set_cons_succ]
  refine wpAnyH_ready (rs := [4]) (by kernel_rfl) (by simp) ?_
  refine AllReadyH.cons (o := { dst := some 70, op := Op.call { callee := Callee.value (Operand.func 15), args := #[Operand.tmp 69], argTypes := #[31] }, type := 33, pos := _, after := _, guard := none }) rfl (fun K hK => ?_) AllReadyH.nil
  rw [if_pos (by rfl)]
  show Oper.wp _ _ _ _ K _
  go_simp
  go_at_call 15
  refine (digs_at _ (hSl.out.below hHeld)).mono ?_
  rintro e w6a ⟨oa, oc, rfl, hD0, hbq⟩
  have hO := Lib.hid hD0
  rw [hPlm.out] at hO
  clear hD0
  refine hK.out _ _ (hHeld.trans (hbq.mono hHeld.size)) (fun hHeld => ?_)
  clear hbq
  clear hK K
  try simp only [Act.put, List.setIfInBounds_toArray, List.set_cons_zero, List.set_cons_succ]
  refine wpAnyH_ready (rs := [5]) (by kernel_rfl) (by simp) ?_
  refine AllReadyH.cons (o := { dst := some 71, op := Op.call { callee := Callee.value (Operand.func 16), args := #[Operand.tmp 66, Operand.tmp 70], argTypes := #[3, 33] }, type := 42, pos := _, after := _, guard := none }) rfl (fun K hK => ?_) AllReadyH.nil
  rw [if_pos (by rfl)]
  show Oper.wp _ _ _ _ K _
  go_simp
  go_at_call 16
  refine (storeChain_any fo ifo oa n oc (P.take n) _ (HT'.out.below (hbw.out.trans (hHeld.mono hbw.out.size))) hO.out).mono ?_
  rintro e w6b ⟨rfl, hbq⟩
  clear hO
  refine hK.out _ _ (hHeld.trans (hbq.mono hHeld.size)) (fun hHeld => ?_)
  clear hbq
  clear hK K
  try simp only [Act.put, List.setIfInBounds_toArray, List.set_cons_zero, List.set_cons_succ]
  refine wpAnyH_ready (rs := [10]) (by kernel_rfl) (by simp) ?_
  refine AllReadyH.cons (o := { dst := some 76, op := Op.call { callee := Callee.value (Operand.func 15), args := #[Operand.tmp 75], argTypes := #[31] }, type := 33, pos := _, after := _, guard := none }) rfl (fun K hK => ?_) AllReadyH.nil
  rw [if_pos (by rfl)]
  show Oper.wp _ _ _ _ K _
  go_simp
  go_at_call 15
  refine (digs_at _ (hSm.out.below hHeld)).mono ?_
  rintro e w6c ⟨ob, oc2, rfl, hD0, hbq⟩
  have hO := Lib.hid hD0
  rw [hPmm.out] at hO
  clear hD0
  refine hK.out _ _ (hHeld.trans (hbq.mono hHeld.size)) (fun hHeld => ?_)
  clear hbq
  clear hK K
  try simp only [Act.put, List.setIfInBounds_toArray, List.set_cons_zero, List.set_cons_succ]
  refine wpAnyH_ready (rs := [11]) (by kernel_rfl) (by simp) ?_
  refine AllReadyH.cons (o := { dst := some 77, op := Op.call { callee := Callee.value (Operand.func 16), args := #[Operand.tmp 72, Operand.tmp 76], argTypes := #[3, 33] }, type := 42, pos := _, after := _, guard := none }) rfl (fun K hK => ?_) AllReadyH.nil
  rw [if_pos (by rfl)]
  show Oper.wp _ _ _ _ K _
  go_simp
  go_at_call 16
  refine (storeChain_any fo ifo ob n oc2 (Q.take n) _ (HT'.out.below (hbw.out.trans (hHeld.mono hbw.out.size))) hO.out).mono ?_
  rintro e w7 ⟨rfl, hbq⟩
  clear hO
  refine hK.out _ _ (hHeld.trans (hbq.mono hHeld.size)) (fun hHeld => ?_)
  clear hbq
  clear hK K
  try simp only [Act.put, List.setIfInBounds_toArray, List.set_cons_zero, List.set_cons_succ]
  refine wpAnyH_take (i := 12) (oi := { dst := some 78, op := Op.binOp BinOp.neq 42 (Operand.tmp 71) (Operand.tmp 77) 42, type := 4, pos := _, after := _, guard := none }) (v := ?_) rfl (by kernel_rfl) (by kernel_rfl) (by kernel_rfl) (fun _ _ _ h => h) (Or.inl ⟨by rfl, ?_⟩) hHeld ?_
  rotate_left
  · intro wz hSw
    go_simp
    all_goals (with_reducible rfl)
  try simp only [Act.put, List.setIfInBounds_toArray, List.set_cons_zero, List.set_cons_succ]
  refine wpAnyH_take (i := 13) (oi := { dst := some 17, op := Op.assign (Operand.tmp 78), type := 4, pos := _, after := _, guard := none }) (v := ?_) rfl (by kernel_rfl) (by kernel_rfl) (by kernel_rfl) (fun _ _ _ h => h) (Or.inl ⟨by rfl, ?_⟩) hHeld ?_
  rotate_left
  · intro wz hSw
    go_simp
    all_goals (with_reducible rfl)
  try simp only [Act.put, List.setIfInBounds_toArray, List.set_cons_zero, List.set_cons_succ]
  refine wpAnyH_done (by kernel_rfl) ?_ _
  have hst := hHeld
  clear hHeld heq hSl hSm hsl hsm
  replace hBs := Lib.hid (hBs.out.below hst hBs.out.lt)
  replace hEl := Lib.hid (hEl.out.below hst)
  replace hEm := Lib.hid (hEm.out.below hst)
  replace hbw := Lib.hid (hbw.out.trans (hst.mono hbw.out.size))
  clear hst
  have s0 := hBs.out.at_ (i := 0) rfl
  have s1 := hBs.out.at_ (i := 1) rfl
  have s2 := hBs.out.at_ (i := 2) rfl
  go_wp2_with fail
  refine (cA'.out a14 c14 _ (HT'.out.below hbw.out) hEl.out).mono ?_
  rintro e w8 ⟨rfl, hst⟩
  replace hBs := Lib.hid (hBs.out.below hst hBs.out.lt)
  replace hEl := Lib.hid (hEl.out.below hst)
  replace hEm := Lib.hid (hEm.out.below hst)
  replace hbw := Lib.hid (hbw.out.trans (hst.mono hbw.out.size))
  clear hst
  obtain ⟨v8, hP⟩ : ∃ V, Hid (PutR 46 (w8.alloc (.cells ((hdC Go.Vw.zeroH) : List Value).toArray 46)) V w8.heap.size 46 (hdC hA)) := put_row (Blk.new w8 46 ((hdC Go.Vw.zeroH))) (by rw [hdC_len okA, hdC_len okH0]) (by rw [hdC_len okA]; exact sizeH) ((hdC_r okA).one)
  have hst := below_grown ((Below.refl _ w8).alloc (Nat.le_refl _) _) hP.out.grown (by simp) (Nat.le_refl _)
  replace hBs := Lib.hid (hBs.out.below hst hBs.out.lt)
  replace hEl := Lib.hid (hEl.out.below hst)
  replace hEm := Lib.hid (hEm.out.below hst)
  replace hbw := Lib.hid (hbw.out.trans (hst.mono hbw.out.size))
  clear hst
  have hBA := Lib.hid hP.out.blk
  clear s0 s1 s2
  have s0 := hBs.out.at_ (i := 0) rfl
  have s1 := hBs.out.at_ (i := 1) rfl
  have s2 := hBs.out.at_ (i := 2) rfl
  go_wp2_with (first
    | (refine wpList_store_mid (by rfl) 46 (.tmp 18) (.tmp 84) (by rfl) w8.heap.size 0 ((hdC hA)).toArray (by rfl) (by rfl) hP.out.there hP.out.info (by simpa using hP.out.one) ?_
       generalize hWq : World.setCells _ _ _ _ = Wa
       obtain rfl : v8 = Wa := by rw [← hWq]; exact hP.out.eq
       clear hWq))
  clear hP
  refine (cZ'.out a15 c15 _ (HT'.out.below hbw.out) hEm.out).mono ?_
  rintro e w9 ⟨rfl, hst⟩
  replace hBs := Lib.hid (hBs.out.below hst hBs.out.lt)
  replace hEl := Lib.hid (hEl.out.below hst)
  replace hEm := Lib.hid (hEm.out.below hst)
  replace hBA := Lib.hid (hBA.out.below hst hBA.out.lt)
  replace hbw := Lib.hid (hbw.out.trans (hst.mono hbw.out.size))
  clear hst
  obtain ⟨v9, hP⟩ : ∃ V, Hid (PutR 46 (w9.alloc (.cells ((hdC Go.Vw.zeroH) : List Value).toArray 46)) V w9.heap.size 46 (hdC hZ)) := put_row (Blk.new w9 46 ((hdC Go.Vw.zeroH))) (by rw [hdC_len okZ, hdC_len okH0]) (by rw [hdC_len okZ]; exact sizeH) ((hdC_r okZ).one)
  have hst := below_grown ((Below.refl _ w9).alloc (Nat.le_refl _) _) hP.out.grown (by simp) (Nat.le_refl _)
  replace hBs := Lib.hid (hBs.out.below hst hBs.out.lt)
  replace hEl := Lib.hid (hEl.out.below hst)
  replace hEm := Lib.hid (hEm.out.below hst)
  replace hBA := Lib.hid (hBA.out.below hst hBA.out.lt)
  replace hbw := Lib.hid (hbw.out.trans (hst.mono hbw.out.size))
  clear hst
  have hBZ := Lib.hid hP.out.blk
  clear s0 s1 s2
  have s0 := hBs.out.at_ (i := 0) rfl
  have s1 := hBs.out.at_ (i := 1) rfl
  have s2 := hBs.out.at_ (i := 2) rfl
  go_upto_region 11 with (first
    | (refine wpList_store_mid (by rfl) 46 (.tmp 20) (.tmp 91) (by rfl) w9.heap.size 0 ((hdC hZ)).toArray (by rfl) (by rfl) hP.out.there hP.out.info (by simpa using hP.out.one) ?_
       generalize hWq : World.setCells _ _ _ _ = Wa
       obtain rfl : v9 = Wa := by rw [← hWq]; exact hP.out.eq
       clear hWq))
  clear hP
  clear s0 s1 s2
  have hacc : Hid (accV (newV i fo q) es hA = (⟨i, fo, q, P, [hA]⟩, zeroF, 0)) := Go.Vw.acc_new h1d'.out h2d'.out hPP.out henl.out sA'.out
  have hgl := hBA.out.lt
  have hgr := Lib.hid hBA.out.range
  have hgi := infoHd okA
  refine share (G := ∀ (q11 : Nat) (q12 : Nat) (xa : Option Addr) (xc : Nat) (ya : Option Addr) (yc : Nat) (fa : Option Addr) (fc : Nat) (WZ : World), (Below v9.heap.size v9 WZ) → (Blk WZ q11 36 ([.int .i64 i, .int .i64 fo, .int .i64 q, .slice xa tn xc, .slice ya 1 yc])) → (v9.heap.size ≤ q11) → (Blk WZ q12 48 (forkC zeroF fa 0 fc)) → (v9.heap.size ≤ q12) → (q11 ≠ q12) → (VM WZ ⟨i, fo, q, P, [hA]⟩ xa tn xc ya 1 yc) → (0 < tn → ∀ ad, xa = some ad → ad.block ≠ q11) → (0 < tn → ∀ ad, xa = some ad → ad.block ≠ q12) → (0 < 1 → ∀ ad, ya = some ad → ad.block ≠ q11) → (0 < 1 → ∀ ad, ya = some ad → ad.block ≠ q12) → (?GfinR11 : Nat → Nat → Option Addr → Nat → Option Addr → Nat → Option Addr → Nat → World → Prop) q11 q12 xa xc ya yc fa fc WZ) ?hfinR11 ?kfinR11
  case' hfinR11 =>
    intro KfinR11
  case' hfinR11 =>
    refine share (G := ∀ (q11 : Nat) (q12 : Nat) (xa : Option Addr) (xc : Nat) (ya : Option Addr) (yc : Nat) (fa : Option Addr) (fc : Nat) (WZ : World), (Below v9.heap.size v9 WZ) → (Blk WZ q11 36 ([.int .i64 i, .int .i64 fo, .int .i64 q, .slice xa tn xc, .slice ya 1 yc])) → (v9.heap.size ≤ q11) → (Blk WZ q12 48 (zrF)) → (v9.heap.size ≤ q12) → (q11 ≠ q12) → (VM WZ ⟨i, fo, q, P, [hA]⟩ xa tn xc ya 1 yc) → (0 < tn → ∀ ad, xa = some ad → ad.block ≠ q11) → (0 < tn → ∀ ad, xa = some ad → ad.block ≠ q12) → (0 < 1 → ∀ ad, ya = some ad → ad.block ≠ q11) → (0 < 1 → ∀ ad, ya = some ad → ad.block ≠ q12) → (?Gs3_11_12_R11 : Nat → Nat → Option Addr → Nat → Option Addr → Nat → Option Addr → Nat → World → Prop) q11 q12 xa xc ya yc fa fc WZ) ?hs3_11_12_R11 ?ks3_11_12_R11
  case' hs3_11_12_R11 => intro Ks3_11_12_R11
  case' hs3_11_12_R11 =>
    refine share (G := ∀ (q11 : Nat) (q12 : Nat) (xa : Option Addr) (xc : Nat) (ya : Option Addr) (yc : Nat) (fa : Option Addr) (fc : Nat) (WZ : World), (Below v9.heap.size v9 WZ) → (Blk WZ q11 36 (zrV)) → (v9.heap.size ≤ q11) → (Blk WZ q12 48 (zrF)) → (v9.heap.size ≤ q12) → (q11 ≠ q12) → (VM WZ ⟨i, fo, q, P, [hA]⟩ xa tn xc ya 1 yc) → (0 < tn → ∀ ad, xa = some ad → ad.block ≠ q11) → (0 < tn → ∀ ad, xa = some ad → ad.block ≠ q12) → (0 < 1 → ∀ ad, ya = some ad → ad.block ≠ q11) → (0 < 1 → ∀ ad, ya = some ad → ad.block ≠ q12) → (?Gs2_11_12_R11 : Nat → Nat → Option Addr → Nat → Option Addr → Nat → Option Addr → Nat → World → Prop) q11 q12 xa xc ya yc fa fc WZ) ?hs2_11_12_R11 ?ks2_11_12_R11
  case' hs2_11_12_R11 => intro Ks2_11_12_R11
  case' hs2_11_12_R11 =>
    refine share (G := ∀ (q11 : Nat) (xa : Option Addr) (xc : Nat) (ya : Option Addr) (yc : Nat) (fa : Option Addr) (fc : Nat) (WZ : World), (Below v9.heap.size v9 WZ) → (Blk WZ q11 36 (zrV)) → (v9.heap.size ≤ q11) → (VM WZ ⟨i, fo, q, P, [hA]⟩ xa tn xc ya 1 yc) → (0 < tn → ∀ ad, xa = some ad → ad.block ≠ q11) → (0 < 1 → ∀ ad, ya = some ad → ad.block ≠ q11) → (?Gs2_11_R11 : Nat → Option Addr → Nat → Option Addr → Nat → Option Addr → Nat → World → Prop) q11 xa xc ya yc fa fc WZ) ?hs2_11_R11 ?ks2_11_R11
  case' hs2_11_R11 => intro Ks2_11_R11
  case' hs2_11_R11 =>
    refine share (G := ∀ (q12 : Nat) (xa : Option Addr) (xc : Nat) (ya : Option Addr) (yc : Nat) (fa : Option Addr) (fc : Nat) (WZ : World), (Below v9.heap.size v9 WZ) → (Blk WZ q12 48 (zrF)) → (v9.heap.size ≤ q12) → (VM WZ ⟨i, fo, q, P, [hA]⟩ xa tn xc ya 1 yc) → (0 < tn → ∀ ad, xa = some ad → ad.block ≠ q12) → (0 < 1 → ∀ ad, ya = some ad → ad.block ≠ q12) → (?Gs2_12_R11 : Nat → Option Addr → Nat → Option Addr → Nat → Option Addr → Nat → World → Prop) q12 xa xc ya yc fa fc WZ) ?hs2_12_R11 ?ks2_12_R11
  case' hs2_12_R11 => intro Ks2_12_R11
  case' hs2_12_R11 =>
    refine share (G := ∀ (xa : Option Addr) (xc : Nat) (ya : Option Addr) (yc : Nat) (fa : Option Addr) (fc : Nat) (WZ : World), (Below v9.heap.size v9 WZ) → (VM WZ ⟨i, fo, q, P, [hA]⟩ xa tn xc ya 1 yc) → (?Gs2_R11 : Option Addr → Nat → Option Addr → Nat → Option Addr → Nat → World → Prop) xa xc ya yc fa fc WZ) ?hs2_R11 ?ks2_R11
  case' hs2_R11 => intro Ks2_R11
  case' hs2_R11 =>
    refine share (G := ∀ (q11 : Nat) (q12 : Nat) (WZ : World), (Below v9.heap.size v9 WZ) → (Blk WZ q11 36 (zrV)) → (v9.heap.size ≤ q11) → (Blk WZ q12 48 (zrF)) → (v9.heap.size ≤ q12) → (q11 ≠ q12) → (?Gs1_11_12_R11 : Nat → Nat → World → Prop) q11 q12 WZ) ?hs1_11_12_R11 ?ks1_11_12_R11
  case' hs1_11_12_R11 => intro Ks1_11_12_R11
  case' hs1_11_12_R11 =>
    refine share (G := ∀ (q11 : Nat) (WZ : World), (Below v9.heap.size v9 WZ) → (Blk WZ q11 36 (zrV)) → (v9.heap.size ≤ q11) → (?Gs1_11_R11 : Nat → World → Prop) q11 WZ) ?hs1_11_R11 ?ks1_11_R11
  case' hs1_11_R11 => intro Ks1_11_R11
  case' hs1_11_R11 =>
    refine share (G := ∀ (q12 : Nat) (WZ : World), (Below v9.heap.size v9 WZ) → (Blk WZ q12 48 (zrF)) → (v9.heap.size ≤ q12) → (?Gs1_12_R11 : Nat → World → Prop) q12 WZ) ?hs1_12_R11 ?ks1_12_R11
  case' hs1_12_R11 => intro Ks1_12_R11
  case' hs1_12_R11 =>
    refine share (G := ∀ (WZ : World), (Below v9.heap.size v9 WZ) → (?Gs1_R11 : World → Prop) WZ) ?hs1_R11 ?ks1_R11
  case' hs1_R11 => intro Ks1_R11
  case' hs1_R11 =>
    refine share (G := ∀ (q11 : Nat) (q12 : Nat) (WZ : World), (Below v9.heap.size v9 WZ) → (Blk WZ q11 36 (zrV)) → (v9.heap.size ≤ q11) → (Blk WZ q12 48 (zrF)) → (v9.heap.size ≤ q12) → (q11 ≠ q12) → (?Gs0_11_12_R11 : Nat → Nat → World → Prop) q11 q12 WZ) ?hs0_11_12_R11 ?ks0_11_12_R11
  case' hs0_11_12_R11 => intro Ks0_11_12_R11
  case' hs0_11_12_R11 =>
    refine share (G := ∀ (q11 : Nat) (WZ : World), (Below v9.heap.size v9 WZ) → (Blk WZ q11 36 (zrV)) → (v9.heap.size ≤ q11) → (?Gs0_11_R11 : Nat → World → Prop) q11 WZ) ?hs0_11_R11 ?ks0_11_R11
  case' hs0_11_R11 => intro Ks0_11_R11
  case' hs0_11_R11 =>
    refine share (G := ∀ (q12 : Nat) (WZ : World), (Below v9.heap.size v9 WZ) → (Blk WZ q12 48 (zrF)) → (v9.heap.size ≤ q12) → (?Gs0_12_R11 : Nat → World → Prop) q12 WZ) ?hs0_12_R11 ?ks0_12_R11
  case' hs0_12_R11 => intro Ks0_12_R11
  case hs0_12_R11 =>
    refine wp_region_held_drew (S := fun wz => Below v9.heap.size v9 wz) (by kernel_rfl) ((Below.refl _ v9).drew) (fun hHeld => ?_)
    generalize v9.drew = WZ at *
    refine wpAnyH_take (i := 0) (oi := { dst := some 94, op := Op.move (Operand.tmp 0), type := 3, pos := _, after := _, guard := none }) (v := ?_) rfl (by kernel_rfl) (by kernel_rfl) (by kernel_rfl) (fun _ _ _ h => h) (Or.inl ⟨by rfl, ?_⟩) hHeld ?_
    rotate_left
    · intro wz hSw
      go_simp
      all_goals (with_reducible rfl)
    try simp only [Act.put, List.setIfInBounds_toArray, List.set_cons_zero, List.set_cons_succ]
    refine wpAnyH_take (i := 1) (oi := { dst := some 95, op := Op.move (Operand.tmp 2), type := 3, pos := _, after := _, guard := none }) (v := ?_) rfl (by kernel_rfl) (by kernel_rfl) (by kernel_rfl) (fun _ _ _ h => h) (Or.inl ⟨by rfl, ?_⟩) hHeld ?_
    rotate_left
    · intro wz hSw
      go_simp
      all_goals (with_reducible rfl)
    try simp only [Act.put, List.setIfInBounds_toArray, List.set_cons_zero, List.set_cons_succ]
    refine wpAnyH_take (i := 2) (oi := { dst := some 96, op := Op.move (Operand.tmp 12), type := 3, pos := _, after := _, guard := none }) (v := ?_) rfl (by kernel_rfl) (by kernel_rfl) (by kernel_rfl) (fun _ _ _ h => h) (Or.inl ⟨by rfl, ?_⟩) hHeld ?_
    rotate_left
    · intro wz hSw
      go_simp
      all_goals (with_reducible rfl)
    try simp only [Act.put, List.setIfInBounds_toArray, List.set_cons_zero, List.set_cons_succ]
    refine wpAnyH_take (i := 4) (oi := { dst := some 98, op := Op.move (Operand.tmp 14), type := 31, pos := _, after := _, guard := none }) (v := ?_) rfl (by kernel_rfl) (by kernel_rfl) (by kernel_rfl) (fun _ _ _ h => h) (Or.inl ⟨by rfl, ?_⟩) hHeld ?_
    rotate_left
    · intro wz hSw
      go_simp
      all_goals (with_reducible rfl)
    try simp only [Act.put, List.setIfInBounds_toArray, List.set_cons_zero, List.set_cons_succ]
    refine wpAnyH_take (i := 5) (oi := { dst := some 99, op := Op.load 46 (Operand.tmp 18), type := 46, pos := _, after := _, guard := none }) rfl (by kernel_rfl) (by kernel_rfl) (by kernel_rfl) (fun _ _ _ h => h) (yieldsIf_load_mid (by rfl) _ _ rfl w8.heap.size 0 rfl (hdC hA) _ (fun wz h => fun j v hv => (h.cell (p := ⟨w8.heap.size, _, none⟩) hgl).trans (hgr.out j v hv)) Tryd.underlying46 rfl (hgi.out)) hHeld ?_
    try simp only [Act.put, List.setIfInBounds_toArray, List.set_cons_zero, List.set_cons_succ]
    refine wpAnyH_ready (rs := [3, 11, 12]) (by kernel_rfl) (by simp) ?_
    refine AllReadyH.cons (o := { dst := some 97, op := Op.call { callee := Callee.value (Operand.func 19), args := #[Operand.tmp 94, Operand.tmp 95, Operand.tmp 96], argTypes := #[3, 3, 3] }, type := 36, pos := _, after := _, guard := none }) rfl (fun K hK => ?_) (AllReadyH.cons (o := { dst := some 22, op := Op.alloc 36, type := 0, pos := _, after := _, guard := none }) rfl (fun K hK => ?_) (AllReadyH.cons (o := { dst := some 23, op := Op.alloc 48, type := 0, pos := _, after := _, guard := none }) rfl (fun K hK => ?_) AllReadyH.nil))
    case refine_1 =>
      rw [if_pos (by rfl)]
      show Oper.wp _ _ _ _ K _
      go_simp
      go_at_call 19
      refine (viewNew_any i fo q _).mono ?_
      rintro e wq ⟨rfl, hst⟩


      refine hK.out _ _ (hHeld.trans (hst.mono hHeld.size)) (fun hHeld2 => ?_)
      clear hK K
      try simp only [Act.put, List.setIfInBounds_toArray, List.set_cons_zero, List.set_cons_succ]
      exact Ks1_R11  wq (hHeld2)
    case refine_2 =>
      rw [if_pos (by rfl)]
      show Oper.wp _ _ _ _ K _
      go_simp
      refine hK.out _ _ (hHeld.alloc hHeld.size _) (fun hHeld2 => ?_)
      clear hK K
      try simp only [Act.put, List.setIfInBounds_toArray, List.set_cons_zero, List.set_cons_succ]
      generalize hW2 : World.alloc WZ _ = W2
      rw [hW2] at hHeld2
      generalize hq : WZ.heap.size = q11
      have hBn : Blk W2 q11 36 (zrV) := by rw [← hW2, ← hq]; exact Blk.new _ _ _
      have hLn := hHeld.size
      rw [hq] at hLn
      clear hW2 hq
      exact Ks0_11_R11 q11 W2 (hHeld2) (hBn) (hLn)
    case refine_3 =>
      rw [if_pos (by rfl)]
      show Oper.wp _ _ _ _ K _
      go_simp
      refine hK.out _ _ (hHeld.alloc hHeld.size _) (fun hHeld2 => ?_)
      clear hK K
      try simp only [Act.put, List.setIfInBounds_toArray, List.set_cons_zero, List.set_cons_succ]
      generalize hW2 : World.alloc WZ _ = W2
      rw [hW2] at hHeld2
      generalize hq : WZ.heap.size = q12
      have hBn : Blk W2 q12 48 (zrF) := by rw [← hW2, ← hq]; exact Blk.new _ _ _
      have hLn := hHeld.size
      rw [hq] at hLn
      clear hW2 hq
      exact Ks0_12_R11 q12 W2 (hHeld2) (hBn) (hLn)
  case ks0_12_R11 =>
    intro q12 WZ hHeld hB12 hL12
    refine wpAnyH_ready (rs := [3, 11]) (by kernel_rfl) (by simp) ?_
    refine AllReadyH.cons (o := { dst := some 97, op := Op.call { callee := Callee.value (Operand.func 19), args := #[Operand.tmp 94, Operand.tmp 95, Operand.tmp 96], argTypes := #[3, 3, 3] }, type := 36, pos := _, after := _, guard := none }) rfl (fun K hK => ?_) (AllReadyH.cons (o := { dst := some 22, op := Op.alloc 36, type := 0, pos := _, after := _, guard := none }) rfl (fun K hK => ?_) AllReadyH.nil)
    case refine_1 =>
      rw [if_pos (by rfl)]
      show Oper.wp _ _ _ _ K _
      go_simp
      go_at_call 19
      refine (viewNew_any i fo q _).mono ?_
      rintro e wq ⟨rfl, hst⟩


      refine hK.out _ _ (hHeld.trans (hst.mono hHeld.size)) (fun hHeld2 => ?_)
      clear hK K
      try simp only [Act.put, List.setIfInBounds_toArray, List.set_cons_zero, List.set_cons_succ]
      exact Ks1_12_R11 q12 wq (hHeld2) (hB12.below hst hB12.lt) (hL12)
    case refine_2 =>
      rw [if_pos (by rfl)]
      show Oper.wp _ _ _ _ K _
      go_simp
      refine hK.out _ _ (hHeld.alloc hHeld.size _) (fun hHeld2 => ?_)
      clear hK K
      try simp only [Act.put, List.setIfInBounds_toArray, List.set_cons_zero, List.set_cons_succ]
      generalize hW2 : World.alloc WZ _ = W2
      rw [hW2] at hHeld2
      generalize hq : WZ.heap.size = q11
      have hBn : Blk W2 q11 36 (zrV) := by rw [← hW2, ← hq]; exact Blk.new _ _ _
      have hLn := hHeld.size
      rw [hq] at hLn
      have hB12' : Blk W2 q12 48 (zrF) := by rw [← hW2]; exact hB12.alloc _
      have hN12' := hB12.lt
      rw [hq] at hN12'
      clear hW2 hq
      exact Ks0_11_12_R11 q11 q12 W2 (hHeld2) (hBn) (hLn) (hB12') (hL12) ((by omega))
  case ks0_11_R11 =>
    intro q11 WZ hHeld hB11 hL11
    refine wpAnyH_ready (rs := [3, 12]) (by kernel_rfl) (by simp) ?_
    refine AllReadyH.cons (o := { dst := some 97, op := Op.call { callee := Callee.value (Operand.func 19), args := #[Operand.tmp 94, Operand.tmp 95, Operand.tmp 96], argTypes := #[3, 3, 3] }, type := 36, pos := _, after := _, guard := none }) rfl (fun K hK => ?_) (AllReadyH.cons (o := { dst := some 23, op := Op.alloc 48, type := 0, pos := _, after := _, guard := none }) rfl (fun K hK => ?_) AllReadyH.nil)
    case refine_1 =>
      rw [if_pos (by rfl)]
      show Oper.wp _ _ _ _ K _
      go_simp
      go_at_call 19
      refine (viewNew_any i fo q _).mono ?_
      rintro e wq ⟨rfl, hst⟩


      refine hK.out _ _ (hHeld.trans (hst.mono hHeld.size)) (fun hHeld2 => ?_)
      clear hK K
      try simp only [Act.put, List.setIfInBounds_toArray, List.set_cons_zero, List.set_cons_succ]
      exact Ks1_11_R11 q11 wq (hHeld2) (hB11.below hst hB11.lt) (hL11)
    case refine_2 =>
      rw [if_pos (by rfl)]
      show Oper.wp _ _ _ _ K _
      go_simp
      refine hK.out _ _ (hHeld.alloc hHeld.size _) (fun hHeld2 => ?_)
      clear hK K
      try simp only [Act.put, List.setIfInBounds_toArray, List.set_cons_zero, List.set_cons_succ]
      generalize hW2 : World.alloc WZ _ = W2
      rw [hW2] at hHeld2
      generalize hq : WZ.heap.size = q12
      have hBn : Blk W2 q12 48 (zrF) := by rw [← hW2, ← hq]; exact Blk.new _ _ _
      have hLn := hHeld.size
      rw [hq] at hLn
      have hB11' : Blk W2 q11 36 (zrV) := by rw [← hW2]; exact hB11.alloc _
      have hN11' := hB11.lt
      rw [hq] at hN11'
      clear hW2 hq
      exact Ks0_11_12_R11 q11 q12 W2 (hHeld2) (hB11') (hL11) (hBn) (hLn) ((by omega))
  case ks0_11_12_R11 =>
    intro q11 q12 WZ hHeld hB11 hL11 hB12 hL12 hN11_12
    refine wpAnyH_ready (rs := [3]) (by kernel_rfl) (by simp) ?_
    refine AllReadyH.cons (o := { dst := some 97, op := Op.call { callee := Callee.value (Operand.func 19), args := #[Operand.tmp 94, Operand.tmp 95, Operand.tmp 96], argTypes := #[3, 3, 3] }, type := 36, pos := _, after := _, guard := none }) rfl (fun K hK => ?_) AllReadyH.nil
    rw [if_pos (by rfl)]
    show Oper.wp _ _ _ _ K _
    go_simp
    go_at_call 19
    refine (viewNew_any i fo q _).mono ?_
    rintro e wq ⟨rfl, hst⟩


    refine hK.out _ _ (hHeld.trans (hst.mono hHeld.size)) (fun hHeld2 => ?_)
    clear hK K
    try simp only [Act.put, List.setIfInBounds_toArray, List.set_cons_zero, List.set_cons_succ]
    exact Ks1_11_12_R11 q11 q12 wq (hHeld2) (hB11.below hst hB11.lt) (hL11) (hB12.below hst hB12.lt) (hL12) (hN11_12)
  case ks1_R11 =>
    intro  WZ hHeld
    refine wpAnyH_ready (rs := [6, 11, 12]) (by kernel_rfl) (by simp) ?_
    refine AllReadyH.cons (o := { dst := some 100, op := Op.call { callee := Callee.value (Operand.func 18), args := #[Operand.tmp 97, Operand.tmp 98, Operand.tmp 99], argTypes := #[36, 31, 46] }, type := 57, pos := _, after := _, guard := none }) rfl (fun K hK => ?_) (AllReadyH.cons (o := { dst := some 22, op := Op.alloc 36, type := 0, pos := _, after := _, guard := none }) rfl (fun K hK => ?_) (AllReadyH.cons (o := { dst := some 23, op := Op.alloc 48, type := 0, pos := _, after := _, guard := none }) rfl (fun K hK => ?_) AllReadyH.nil))
    case refine_1 =>
      rw [if_pos (by rfl)]
      show Oper.wp _ _ _ _ K _
      go_simp
      go_at_call 18
      have hac := accept_sep (newV i fo q) none 0 0 none 0 0 a14 tn c14 es hA okA _ (HT'.out.below (hbw.out.trans (hHeld.mono hbw.out.size))) (vmN iid ifo hpq64.out _) (hEl.out.below hHeld) (by decide)
      rw [hacc.out] at hac
      refine hac.mono ?_
      rintro e wq ⟨xa, xn, xc, ya, yn, yc, fa, fn, fc, rfl, hVM, _, hDf, _, hst, hF1, hF2, _⟩
      have exn : xn = tn := hVM.ds.len.symm.trans hPn.out
      subst xn
      obtain rfl : yn = 1 := hVM.hs.rs.len.symm
      obtain rfl : fn = 0 := hDf.len.symm

      refine hK.out _ _ (hHeld.trans (hst.mono hHeld.size)) (fun hHeld2 => ?_)
      clear hK K
      refine wpAnyH_take (i := 7) (oi := { dst := some 93, op := Op.move (Operand.tmp 100), type := 57, pos := _, after := _, guard := none }) (v := ?_) rfl (by kernel_rfl) (by kernel_rfl) (by kernel_rfl) (fun _ _ _ h => h) (Or.inl ⟨by rfl, ?_⟩) hHeld2 ?_
      rotate_left
      · intro wz hSw
        go_simp
        all_goals (with_reducible rfl)
      try simp only [Act.put, List.setIfInBounds_toArray, List.set_cons_zero, List.set_cons_succ]
      refine wpAnyH_take (i := 8) (oi := { dst := some 101, op := Op.extract (Operand.tmp 93) 0, type := 36, pos := _, after := _, guard := none }) (v := ?_) rfl (by kernel_rfl) (by kernel_rfl) (by kernel_rfl) (fun _ _ _ h => h) (Or.inl ⟨by rfl, ?_⟩) hHeld2 ?_
      rotate_left
      · intro wz hSw
        go_simp
        all_goals (with_reducible rfl)
      try simp only [Act.put, List.setIfInBounds_toArray, List.set_cons_zero, List.set_cons_succ]
      refine wpAnyH_take (i := 9) (oi := { dst := some 102, op := Op.extract (Operand.tmp 93) 1, type := 48, pos := _, after := _, guard := none }) (v := ?_) rfl (by kernel_rfl) (by kernel_rfl) (by kernel_rfl) (fun _ _ _ h => h) (Or.inl ⟨by rfl, ?_⟩) hHeld2 ?_
      rotate_left
      · intro wz hSw
        go_simp
        all_goals (with_reducible rfl)
      try simp only [Act.put, List.setIfInBounds_toArray, List.set_cons_zero, List.set_cons_succ]
      refine wpAnyH_take (i := 10) (oi := { dst := some 103, op := Op.extract (Operand.tmp 93) 2, type := 39, pos := _, after := _, guard := none }) (v := ?_) rfl (by kernel_rfl) (by kernel_rfl) (by kernel_rfl) (fun _ _ _ h => h) (Or.inl ⟨by rfl, ?_⟩) hHeld2 ?_
      rotate_left
      · intro wz hSw
        go_simp
        all_goals (with_reducible rfl)
      try simp only [Act.put, List.setIfInBounds_toArray, List.set_cons_zero, List.set_cons_succ]
      exact Ks2_R11 xa xc ya yc fa fc wq (hHeld2) (hVM)
    case refine_2 =>
      rw [if_pos (by rfl)]
      show Oper.wp _ _ _ _ K _
      go_simp
      refine hK.out _ _ (hHeld.alloc hHeld.size _) (fun hHeld2 => ?_)
      clear hK K
      try simp only [Act.put, List.setIfInBounds_toArray, List.set_cons_zero, List.set_cons_succ]
      generalize hW2 : World.alloc WZ _ = W2
      rw [hW2] at hHeld2
      generalize hq : WZ.heap.size = q11
      have hBn : Blk W2 q11 36 (zrV) := by rw [← hW2, ← hq]; exact Blk.new _ _ _
      have hLn := hHeld.size
      rw [hq] at hLn
      clear hW2 hq
      exact Ks1_11_R11 q11 W2 (hHeld2) (hBn) (hLn)
    case refine_3 =>
      rw [if_pos (by rfl)]
      show Oper.wp _ _ _ _ K _
      go_simp
      refine hK.out _ _ (hHeld.alloc hHeld.size _) (fun hHeld2 => ?_)
      clear hK K
      try simp only [Act.put, List.setIfInBounds_toArray, List.set_cons_zero, List.set_cons_succ]
      generalize hW2 : World.alloc WZ _ = W2
      rw [hW2] at hHeld2
      generalize hq : WZ.heap.size = q12
      have hBn : Blk W2 q12 48 (zrF) := by rw [← hW2, ← hq]; exact Blk.new _ _ _
      have hLn := hHeld.size
      rw [hq] at hLn
      clear hW2 hq
      exact Ks1_12_R11 q12 W2 (hHeld2) (hBn) (hLn)
  case ks1_12_R11 =>
    intro q12 WZ hHeld hB12 hL12
    refine wpAnyH_ready (rs := [6, 11]) (by kernel_rfl) (by simp) ?_
    refine AllReadyH.cons (o := { dst := some 100, op := Op.call { callee := Callee.value (Operand.func 18), args := #[Operand.tmp 97, Operand.tmp 98, Operand.tmp 99], argTypes := #[36, 31, 46] }, type := 57, pos := _, after := _, guard := none }) rfl (fun K hK => ?_) (AllReadyH.cons (o := { dst := some 22, op := Op.alloc 36, type := 0, pos := _, after := _, guard := none }) rfl (fun K hK => ?_) AllReadyH.nil)
    case refine_1 =>
      rw [if_pos (by rfl)]
      show Oper.wp _ _ _ _ K _
      go_simp
      go_at_call 18
      have hac := accept_sep (newV i fo q) none 0 0 none 0 0 a14 tn c14 es hA okA _ (HT'.out.below (hbw.out.trans (hHeld.mono hbw.out.size))) (vmN iid ifo hpq64.out _) (hEl.out.below hHeld) (by decide)
      rw [hacc.out] at hac
      refine hac.mono ?_
      rintro e wq ⟨xa, xn, xc, ya, yn, yc, fa, fn, fc, rfl, hVM, _, hDf, _, hst, hF1, hF2, _⟩
      have exn : xn = tn := hVM.ds.len.symm.trans hPn.out
      subst xn
      obtain rfl : yn = 1 := hVM.hs.rs.len.symm
      obtain rfl : fn = 0 := hDf.len.symm
      have hS12a' : 0 < tn → ∀ ad, xa = some ad → ad.block ≠ q12 := fun hp ad e => by
        rcases hF1 hp ad e with hz | hz
        · have := hB12.lt; omega
        · cases hz
      have hS12b' : 0 < 1 → ∀ ad, ya = some ad → ad.block ≠ q12 := fun hp ad e => by
        rcases hF2 hp ad e with hz | hz
        · have := hB12.lt; omega
        · cases hz
      refine hK.out _ _ (hHeld.trans (hst.mono hHeld.size)) (fun hHeld2 => ?_)
      clear hK K
      refine wpAnyH_take (i := 7) (oi := { dst := some 93, op := Op.move (Operand.tmp 100), type := 57, pos := _, after := _, guard := none }) (v := ?_) rfl (by kernel_rfl) (by kernel_rfl) (by kernel_rfl) (fun _ _ _ h => h) (Or.inl ⟨by rfl, ?_⟩) hHeld2 ?_
      rotate_left
      · intro wz hSw
        go_simp
        all_goals (with_reducible rfl)
      try simp only [Act.put, List.setIfInBounds_toArray, List.set_cons_zero, List.set_cons_succ]
      refine wpAnyH_take (i := 8) (oi := { dst := some 101, op := Op.extract (Operand.tmp 93) 0, type := 36, pos := _, after := _, guard := none }) (v := ?_) rfl (by kernel_rfl) (by kernel_rfl) (by kernel_rfl) (fun _ _ _ h => h) (Or.inl ⟨by rfl, ?_⟩) hHeld2 ?_
      rotate_left
      · intro wz hSw
        go_simp
        all_goals (with_reducible rfl)
      try simp only [Act.put, List.setIfInBounds_toArray, List.set_cons_zero, List.set_cons_succ]
      refine wpAnyH_take (i := 9) (oi := { dst := some 102, op := Op.extract (Operand.tmp 93) 1, type := 48, pos := _, after := _, guard := none }) (v := ?_) rfl (by kernel_rfl) (by kernel_rfl) (by kernel_rfl) (fun _ _ _ h => h) (Or.inl ⟨by rfl, ?_⟩) hHeld2 ?_
      rotate_left
      · intro wz hSw
        go_simp
        all_goals (with_reducible rfl)
      try simp only [Act.put, List.setIfInBounds_toArray, List.set_cons_zero, List.set_cons_succ]
      refine wpAnyH_take (i := 10) (oi := { dst := some 103, op := Op.extract (Operand.tmp 93) 2, type := 39, pos := _, after := _, guard := none }) (v := ?_) rfl (by kernel_rfl) (by kernel_rfl) (by kernel_rfl) (fun _ _ _ h => h) (Or.inl ⟨by rfl, ?_⟩) hHeld2 ?_
      rotate_left
      · intro wz hSw
        go_simp
        all_goals (with_reducible rfl)
      try simp only [Act.put, List.setIfInBounds_toArray, List.set_cons_zero, List.set_cons_succ]
      exact Ks2_12_R11 q12 xa xc ya yc fa fc wq (hHeld2) (hB12.below hst hB12.lt) (hL12) (hVM) (hS12a') (hS12b')
    case refine_2 =>
      rw [if_pos (by rfl)]
      show Oper.wp _ _ _ _ K _
      go_simp
      refine hK.out _ _ (hHeld.alloc hHeld.size _) (fun hHeld2 => ?_)
      clear hK K
      try simp only [Act.put, List.setIfInBounds_toArray, List.set_cons_zero, List.set_cons_succ]
      generalize hW2 : World.alloc WZ _ = W2
      rw [hW2] at hHeld2
      generalize hq : WZ.heap.size = q11
      have hBn : Blk W2 q11 36 (zrV) := by rw [← hW2, ← hq]; exact Blk.new _ _ _
      have hLn := hHeld.size
      rw [hq] at hLn
      have hB12' : Blk W2 q12 48 (zrF) := by rw [← hW2]; exact hB12.alloc _
      have hN12' := hB12.lt
      rw [hq] at hN12'
      clear hW2 hq
      exact Ks1_11_12_R11 q11 q12 W2 (hHeld2) (hBn) (hLn) (hB12') (hL12) ((by omega))
  case ks1_11_R11 =>
    intro q11 WZ hHeld hB11 hL11
    refine wpAnyH_ready (rs := [6, 12]) (by kernel_rfl) (by simp) ?_
    refine AllReadyH.cons (o := { dst := some 100, op := Op.call { callee := Callee.value (Operand.func 18), args := #[Operand.tmp 97, Operand.tmp 98, Operand.tmp 99], argTypes := #[36, 31, 46] }, type := 57, pos := _, after := _, guard := none }) rfl (fun K hK => ?_) (AllReadyH.cons (o := { dst := some 23, op := Op.alloc 48, type := 0, pos := _, after := _, guard := none }) rfl (fun K hK => ?_) AllReadyH.nil)
    case refine_1 =>
      rw [if_pos (by rfl)]
      show Oper.wp _ _ _ _ K _
      go_simp
      go_at_call 18
      have hac := accept_sep (newV i fo q) none 0 0 none 0 0 a14 tn c14 es hA okA _ (HT'.out.below (hbw.out.trans (hHeld.mono hbw.out.size))) (vmN iid ifo hpq64.out _) (hEl.out.below hHeld) (by decide)
      rw [hacc.out] at hac
      refine hac.mono ?_
      rintro e wq ⟨xa, xn, xc, ya, yn, yc, fa, fn, fc, rfl, hVM, _, hDf, _, hst, hF1, hF2, _⟩
      have exn : xn = tn := hVM.ds.len.symm.trans hPn.out
      subst xn
      obtain rfl : yn = 1 := hVM.hs.rs.len.symm
      obtain rfl : fn = 0 := hDf.len.symm
      have hS11a' : 0 < tn → ∀ ad, xa = some ad → ad.block ≠ q11 := fun hp ad e => by
        rcases hF1 hp ad e with hz | hz
        · have := hB11.lt; omega
        · cases hz
      have hS11b' : 0 < 1 → ∀ ad, ya = some ad → ad.block ≠ q11 := fun hp ad e => by
        rcases hF2 hp ad e with hz | hz
        · have := hB11.lt; omega
        · cases hz
      refine hK.out _ _ (hHeld.trans (hst.mono hHeld.size)) (fun hHeld2 => ?_)
      clear hK K
      refine wpAnyH_take (i := 7) (oi := { dst := some 93, op := Op.move (Operand.tmp 100), type := 57, pos := _, after := _, guard := none }) (v := ?_) rfl (by kernel_rfl) (by kernel_rfl) (by kernel_rfl) (fun _ _ _ h => h) (Or.inl ⟨by rfl, ?_⟩) hHeld2 ?_
      rotate_left
      · intro wz hSw
        go_simp
        all_goals (with_reducible rfl)
      try simp only [Act.put, List.setIfInBounds_toArray, List.set_cons_zero, List.set_cons_succ]
      refine wpAnyH_take (i := 8) (oi := { dst := some 101, op := Op.extract (Operand.tmp 93) 0, type := 36, pos := _, after := _, guard := none }) (v := ?_) rfl (by kernel_rfl) (by kernel_rfl) (by kernel_rfl) (fun _ _ _ h => h) (Or.inl ⟨by rfl, ?_⟩) hHeld2 ?_
      rotate_left
      · intro wz hSw
        go_simp
        all_goals (with_reducible rfl)
      try simp only [Act.put, List.setIfInBounds_toArray, List.set_cons_zero, List.set_cons_succ]
      refine wpAnyH_take (i := 9) (oi := { dst := some 102, op := Op.extract (Operand.tmp 93) 1, type := 48, pos := _, after := _, guard := none }) (v := ?_) rfl (by kernel_rfl) (by kernel_rfl) (by kernel_rfl) (fun _ _ _ h => h) (Or.inl ⟨by rfl, ?_⟩) hHeld2 ?_
      rotate_left
      · intro wz hSw
        go_simp
        all_goals (with_reducible rfl)
      try simp only [Act.put, List.setIfInBounds_toArray, List.set_cons_zero, List.set_cons_succ]
      refine wpAnyH_take (i := 10) (oi := { dst := some 103, op := Op.extract (Operand.tmp 93) 2, type := 39, pos := _, after := _, guard := none }) (v := ?_) rfl (by kernel_rfl) (by kernel_rfl) (by kernel_rfl) (fun _ _ _ h => h) (Or.inl ⟨by rfl, ?_⟩) hHeld2 ?_
      rotate_left
      · intro wz hSw
        go_simp
        all_goals (with_reducible rfl)
      try simp only [Act.put, List.setIfInBounds_toArray, List.set_cons_zero, List.set_cons_succ]
      exact Ks2_11_R11 q11 xa xc ya yc fa fc wq (hHeld2) (hB11.below hst hB11.lt) (hL11) (hVM) (hS11a') (hS11b')
    case refine_2 =>
      rw [if_pos (by rfl)]
      show Oper.wp _ _ _ _ K _
      go_simp
      refine hK.out _ _ (hHeld.alloc hHeld.size _) (fun hHeld2 => ?_)
      clear hK K
      try simp only [Act.put, List.setIfInBounds_toArray, List.set_cons_zero, List.set_cons_succ]
      generalize hW2 : World.alloc WZ _ = W2
      rw [hW2] at hHeld2
      generalize hq : WZ.heap.size = q12
      have hBn : Blk W2 q12 48 (zrF) := by rw [← hW2, ← hq]; exact Blk.new _ _ _
      have hLn := hHeld.size
      rw [hq] at hLn
      have hB11' : Blk W2 q11 36 (zrV) := by rw [← hW2]; exact hB11.alloc _
      have hN11' := hB11.lt
      rw [hq] at hN11'
      clear hW2 hq
      exact Ks1_11_12_R11 q11 q12 W2 (hHeld2) (hB11') (hL11) (hBn) (hLn) ((by omega))
  case ks1_11_12_R11 =>
    intro q11 q12 WZ hHeld hB11 hL11 hB12 hL12 hN11_12
    refine wpAnyH_ready (rs := [6]) (by kernel_rfl) (by simp) ?_
    refine AllReadyH.cons (o := { dst := some 100, op := Op.call { callee := Callee.value (Operand.func 18), args := #[Operand.tmp 97, Operand.tmp 98, Operand.tmp 99], argTypes := #[36, 31, 46] }, type := 57, pos := _, after := _, guard := none }) rfl (fun K hK => ?_) AllReadyH.nil
    rw [if_pos (by rfl)]
    show Oper.wp _ _ _ _ K _
    go_simp
    go_at_call 18
    have hac := accept_sep (newV i fo q) none 0 0 none 0 0 a14 tn c14 es hA okA _ (HT'.out.below (hbw.out.trans (hHeld.mono hbw.out.size))) (vmN iid ifo hpq64.out _) (hEl.out.below hHeld) (by decide)
    rw [hacc.out] at hac
    refine hac.mono ?_
    rintro e wq ⟨xa, xn, xc, ya, yn, yc, fa, fn, fc, rfl, hVM, _, hDf, _, hst, hF1, hF2, _⟩
    have exn : xn = tn := hVM.ds.len.symm.trans hPn.out
    subst xn
    obtain rfl : yn = 1 := hVM.hs.rs.len.symm
    obtain rfl : fn = 0 := hDf.len.symm
    have hS11a' : 0 < tn → ∀ ad, xa = some ad → ad.block ≠ q11 := fun hp ad e => by
      rcases hF1 hp ad e with hz | hz
      · have := hB11.lt; omega
      · cases hz
    have hS12a' : 0 < tn → ∀ ad, xa = some ad → ad.block ≠ q12 := fun hp ad e => by
      rcases hF1 hp ad e with hz | hz
      · have := hB12.lt; omega
      · cases hz
    have hS11b' : 0 < 1 → ∀ ad, ya = some ad → ad.block ≠ q11 := fun hp ad e => by
      rcases hF2 hp ad e with hz | hz
      · have := hB11.lt; omega
      · cases hz
    have hS12b' : 0 < 1 → ∀ ad, ya = some ad → ad.block ≠ q12 := fun hp ad e => by
      rcases hF2 hp ad e with hz | hz
      · have := hB12.lt; omega
      · cases hz
    refine hK.out _ _ (hHeld.trans (hst.mono hHeld.size)) (fun hHeld2 => ?_)
    clear hK K
    refine wpAnyH_take (i := 7) (oi := { dst := some 93, op := Op.move (Operand.tmp 100), type := 57, pos := _, after := _, guard := none }) (v := ?_) rfl (by kernel_rfl) (by kernel_rfl) (by kernel_rfl) (fun _ _ _ h => h) (Or.inl ⟨by rfl, ?_⟩) hHeld2 ?_
    rotate_left
    · intro wz hSw
      go_simp
      all_goals (with_reducible rfl)
    try simp only [Act.put, List.setIfInBounds_toArray, List.set_cons_zero, List.set_cons_succ]
    refine wpAnyH_take (i := 8) (oi := { dst := some 101, op := Op.extract (Operand.tmp 93) 0, type := 36, pos := _, after := _, guard := none }) (v := ?_) rfl (by kernel_rfl) (by kernel_rfl) (by kernel_rfl) (fun _ _ _ h => h) (Or.inl ⟨by rfl, ?_⟩) hHeld2 ?_
    rotate_left
    · intro wz hSw
      go_simp
      all_goals (with_reducible rfl)
    try simp only [Act.put, List.setIfInBounds_toArray, List.set_cons_zero, List.set_cons_succ]
    refine wpAnyH_take (i := 9) (oi := { dst := some 102, op := Op.extract (Operand.tmp 93) 1, type := 48, pos := _, after := _, guard := none }) (v := ?_) rfl (by kernel_rfl) (by kernel_rfl) (by kernel_rfl) (fun _ _ _ h => h) (Or.inl ⟨by rfl, ?_⟩) hHeld2 ?_
    rotate_left
    · intro wz hSw
      go_simp
      all_goals (with_reducible rfl)
    try simp only [Act.put, List.setIfInBounds_toArray, List.set_cons_zero, List.set_cons_succ]
    refine wpAnyH_take (i := 10) (oi := { dst := some 103, op := Op.extract (Operand.tmp 93) 2, type := 39, pos := _, after := _, guard := none }) (v := ?_) rfl (by kernel_rfl) (by kernel_rfl) (by kernel_rfl) (fun _ _ _ h => h) (Or.inl ⟨by rfl, ?_⟩) hHeld2 ?_
    rotate_left
    · intro wz hSw
      go_simp
      all_goals (with_reducible rfl)
    try simp only [Act.put, List.setIfInBounds_toArray, List.set_cons_zero, List.set_cons_succ]
    exact Ks2_11_12_R11 q11 q12 xa xc ya yc fa fc wq (hHeld2) (hB11.below hst hB11.lt) (hL11) (hB12.below hst hB12.lt) (hL12) (hN11_12) (hVM) (hS11a') (hS12a') (hS11b') (hS12b')
  case ks2_R11 =>
    intro xa xc ya yc fa fc WZ hHeld hVM
    refine wpAnyH_ready (rs := [11, 12]) (by kernel_rfl) (by simp) ?_
    refine AllReadyH.cons (o := { dst := some 22, op := Op.alloc 36, type := 0, pos := _, after := _, guard := none }) rfl (fun K hK => ?_) (AllReadyH.cons (o := { dst := some 23, op := Op.alloc 48, type := 0, pos := _, after := _, guard := none }) rfl (fun K hK => ?_) AllReadyH.nil)
    case refine_1 =>
      rw [if_pos (by rfl)]
      show Oper.wp _ _ _ _ K _
      go_simp
      refine hK.out _ _ (hHeld.alloc hHeld.size _) (fun hHeld2 => ?_)
      clear hK K
      try simp only [Act.put, List.setIfInBounds_toArray, List.set_cons_zero, List.set_cons_succ]
      generalize hW2 : World.alloc WZ _ = W2
      rw [hW2] at hHeld2
      generalize hq : WZ.heap.size = q11
      have hBn : Blk W2 q11 36 (zrV) := by rw [← hW2, ← hq]; exact Blk.new _ _ _
      have hLn := hHeld.size
      rw [hq] at hLn
      have hVM' : VM W2 ⟨i, fo, q, P, [hA]⟩ xa tn xc ya 1 yc := by rw [← hW2]; exact hVM.below ((Below.refl _ WZ).alloc (Nat.le_refl _) _)
      have hSna : 0 < tn → ∀ ad, xa = some ad → ad.block ≠ q11 := fun hp ad e => by have hz := hVM.ds.at_lt hp ad e; rw [hq] at hz; omega
      have hSnb : 0 < 1 → ∀ ad, ya = some ad → ad.block ≠ q11 := fun hp ad e => by have hz := hVM.hs.at_lt hp ad e; rw [hq] at hz; omega
      clear hW2 hq
      exact Ks2_11_R11 q11 xa xc ya yc fa fc W2 (hHeld2) (hBn) (hLn) (hVM') (hSna) (hSnb)
    case refine_2 =>
      rw [if_pos (by rfl)]
      show Oper.wp _ _ _ _ K _
      go_simp
      refine hK.out _ _ (hHeld.alloc hHeld.size _) (fun hHeld2 => ?_)
      clear hK K
      try simp only [Act.put, List.setIfInBounds_toArray, List.set_cons_zero, List.set_cons_succ]
      generalize hW2 : World.alloc WZ _ = W2
      rw [hW2] at hHeld2
      generalize hq : WZ.heap.size = q12
      have hBn : Blk W2 q12 48 (zrF) := by rw [← hW2, ← hq]; exact Blk.new _ _ _
      have hLn := hHeld.size
      rw [hq] at hLn
      have hVM' : VM W2 ⟨i, fo, q, P, [hA]⟩ xa tn xc ya 1 yc := by rw [← hW2]; exact hVM.below ((Below.refl _ WZ).alloc (Nat.le_refl _) _)
      have hSna : 0 < tn → ∀ ad, xa = some ad → ad.block ≠ q12 := fun hp ad e => by have hz := hVM.ds.at_lt hp ad e; rw [hq] at hz; omega
      have hSnb : 0 < 1 → ∀ ad, ya = some ad → ad.block ≠ q12 := fun hp ad e => by have hz := hVM.hs.at_lt hp ad e; rw [hq] at hz; omega
      clear hW2 hq
      exact Ks2_12_R11 q12 xa xc ya yc fa fc W2 (hHeld2) (hBn) (hLn) (hVM') (hSna) (hSnb)
  case ks2_12_R11 =>
    intro q12 xa xc ya yc fa fc WZ hHeld hB12 hL12 hVM hS12a hS12b
    refine wpAnyH_ready (rs := [11]) (by kernel_rfl) (by simp) ?_
    refine AllReadyH.cons (o := { dst := some 22, op := Op.alloc 36, type := 0, pos := _, after := _, guard := none }) rfl (fun K hK => ?_) AllReadyH.nil
    rw [if_pos (by rfl)]
    show Oper.wp _ _ _ _ K _
    go_simp
    refine hK.out _ _ (hHeld.alloc hHeld.size _) (fun hHeld2 => ?_)
    clear hK K
    try simp only [Act.put, List.setIfInBounds_toArray, List.set_cons_zero, List.set_cons_succ]
    generalize hW2 : World.alloc WZ _ = W2
    rw [hW2] at hHeld2
    generalize hq : WZ.heap.size = q11
    have hBn : Blk W2 q11 36 (zrV) := by rw [← hW2, ← hq]; exact Blk.new _ _ _
    have hLn := hHeld.size
    rw [hq] at hLn
    have hB12' : Blk W2 q12 48 (zrF) := by rw [← hW2]; exact hB12.alloc _
    have hN12' := hB12.lt
    rw [hq] at hN12'
    have hVM' : VM W2 ⟨i, fo, q, P, [hA]⟩ xa tn xc ya 1 yc := by rw [← hW2]; exact hVM.below ((Below.refl _ WZ).alloc (Nat.le_refl _) _)
    have hSna : 0 < tn → ∀ ad, xa = some ad → ad.block ≠ q11 := fun hp ad e => by have hz := hVM.ds.at_lt hp ad e; rw [hq] at hz; omega
    have hSnb : 0 < 1 → ∀ ad, ya = some ad → ad.block ≠ q11 := fun hp ad e => by have hz := hVM.hs.at_lt hp ad e; rw [hq] at hz; omega
    clear hW2 hq
    exact Ks2_11_12_R11 q11 q12 xa xc ya yc fa fc W2 (hHeld2) (hBn) (hLn) (hB12') (hL12) ((by omega)) (hVM') (hSna) (hS12a) (hSnb) (hS12b)
  case ks2_11_R11 =>
    intro q11 xa xc ya yc fa fc WZ hHeld hB11 hL11 hVM hS11a hS11b
    refine wpAnyH_ready (rs := [12]) (by kernel_rfl) (by simp) ?_
    refine AllReadyH.cons (o := { dst := some 23, op := Op.alloc 48, type := 0, pos := _, after := _, guard := none }) rfl (fun K hK => ?_) AllReadyH.nil
    rw [if_pos (by rfl)]
    show Oper.wp _ _ _ _ K _
    go_simp
    refine hK.out _ _ (hHeld.alloc hHeld.size _) (fun hHeld2 => ?_)
    clear hK K
    try simp only [Act.put, List.setIfInBounds_toArray, List.set_cons_zero, List.set_cons_succ]
    generalize hW2 : World.alloc WZ _ = W2
    rw [hW2] at hHeld2
    generalize hq : WZ.heap.size = q12
    have hBn : Blk W2 q12 48 (zrF) := by rw [← hW2, ← hq]; exact Blk.new _ _ _
    have hLn := hHeld.size
    rw [hq] at hLn
    have hB11' : Blk W2 q11 36 (zrV) := by rw [← hW2]; exact hB11.alloc _
    have hN11' := hB11.lt
    rw [hq] at hN11'
    have hVM' : VM W2 ⟨i, fo, q, P, [hA]⟩ xa tn xc ya 1 yc := by rw [← hW2]; exact hVM.below ((Below.refl _ WZ).alloc (Nat.le_refl _) _)
    have hSna : 0 < tn → ∀ ad, xa = some ad → ad.block ≠ q12 := fun hp ad e => by have hz := hVM.ds.at_lt hp ad e; rw [hq] at hz; omega
    have hSnb : 0 < 1 → ∀ ad, ya = some ad → ad.block ≠ q12 := fun hp ad e => by have hz := hVM.hs.at_lt hp ad e; rw [hq] at hz; omega
    clear hW2 hq
    exact Ks2_11_12_R11 q11 q12 xa xc ya yc fa fc W2 (hHeld2) (hB11') (hL11) (hBn) (hLn) ((by omega)) (hVM') (hS11a) (hSna) (hS11b) (hSnb)
  case ks2_11_12_R11 =>
    intro q11 q12 xa xc ya yc fa fc WZ hHeld hB11 hL11 hB12 hL12 hN11_12 hVM hS11a hS12a hS11b hS12b
    refine wpAnyH_ready (rs := [13]) (by kernel_rfl) (by simp) ?_
    refine AllReadyH.cons (o := { dst := none, op := Op.store 36 (Operand.tmp 22) (Operand.tmp 101), type := 0, pos := _, after := _, guard := none }) rfl (fun K hK => ?_) AllReadyH.nil
    obtain ⟨W3, hQ⟩ := put_row (ty := 36) hB11 (x := [.int .i64 i, .int .i64 fo, .int .i64 q, .slice xa tn xc, .slice ya 1 yc]) (rfl) (sizeVw) (view_one _ _ _ _ _ _ _ _ _)
    have hHeld2 := below_grown hHeld hQ.grown hHeld.size hL11
    rw [if_pos (by rfl)]
    refine wp_store_mid 36 _ _ rfl q11 0 ([.int .i64 i, .int .i64 fo, .int .i64 q, .slice xa tn xc, .slice ya 1 yc] : List Value).toArray (by rfl) (by rfl) hQ.there hQ.info (by simpa using hQ.one) ?_
    generalize hWq : World.setCells _ _ _ _ = Wa
    obtain rfl : W3 = Wa := by rw [← hWq]; exact hQ.eq
    clear hWq
    refine hK.out _ _ hHeld2 (fun _ => ?_)
    clear hK K
    try simp only [Act.put]
    exact Ks3_11_12_R11 q11 q12 xa xc ya yc fa fc W3 (hHeld2) (hQ.blk) (hL11) (hB12.grown hQ.grown (fun e => by injection e with e; exact hN11_12 e.symm)) (hL12) (hN11_12) (hVM.grown hQ.grown hS11a hS11b) (hS11a) (hS12a) (hS11b) (hS12b)
  case ks3_11_12_R11 =>
    intro q11 q12 xa xc ya yc fa fc WZ hHeld hB11 hL11 hB12 hL12 hN11_12 hVM hS11a hS12a hS11b hS12b
    refine wpAnyH_ready (rs := [14]) (by kernel_rfl) (by simp) ?_
    refine AllReadyH.cons (o := { dst := none, op := Op.store 48 (Operand.tmp 23) (Operand.tmp 102), type := 0, pos := _, after := _, guard := none }) rfl (fun K hK => ?_) AllReadyH.nil
    obtain ⟨W3, hQ⟩ := put_row (ty := 48) hB12 (x := forkC zeroF fa 0 fc) (by rw [forkC_len okF0]; rfl) (by rw [forkC_len okF0]; exact sizeF) (forkC_one okF0 _ _ _)
    have hHeld2 := below_grown hHeld hQ.grown hHeld.size hL12
    rw [if_pos (by rfl)]
    refine wp_store_mid 48 _ _ rfl q12 0 (forkC zeroF fa 0 fc : List Value).toArray (by rfl) (by rfl) hQ.there hQ.info (by simpa using hQ.one) ?_
    generalize hWq : World.setCells _ _ _ _ = Wa
    obtain rfl : W3 = Wa := by rw [← hWq]; exact hQ.eq
    clear hWq
    refine hK.out _ _ hHeld2 (fun _ => ?_)
    clear hK K
    try simp only [Act.put]
    refine wpAnyH_take (i := 15) (oi := { dst := some 24, op := Op.assign (Operand.tmp 103), type := 39, pos := _, after := _, guard := none }) (v := ?_) rfl (by kernel_rfl) (by kernel_rfl) (by kernel_rfl) (fun _ _ _ h => h) (Or.inl ⟨by rfl, ?_⟩) hHeld2 ?_
    rotate_left
    · intro wz hSw
      go_simp
      all_goals (with_reducible rfl)
    try simp only [Act.put, List.setIfInBounds_toArray, List.set_cons_zero, List.set_cons_succ]
    refine wpAnyH_done (by kernel_rfl) ?_ _
    exact KfinR11 q11 q12 xa xc ya yc fa fc W3 (hHeld2) (hB11.grown hQ.grown (fun e => by injection e with e; exact hN11_12 e)) (hL11) (hQ.blk) (hL12) (hN11_12) (hVM.grown hQ.grown hS12a hS12b) (hS11a) (hS12a) (hS11b) (hS12b)
  case kfinR11 =>
  intro g22 g23 xa xc ya yc fa fc w10 hst hb22 _ hb23 _ _ hvm _ _ _ _
  replace hBs := Lib.hid (hBs.out.below hst hBs.out.lt)
  replace hEl := Lib.hid (hEl.out.below hst)
  replace hEm := Lib.hid (hEm.out.below hst)
  replace hBA := Lib.hid (hBA.out.below hst hBA.out.lt)
  replace hBZ := Lib.hid (hBZ.out.below hst hBZ.out.lt)
  replace hbw := Lib.hid (hbw.out.trans (hst.mono hbw.out.size))
  clear hst
  have hBV := Lib.hid hb22
  have hMV := Lib.hid hvm
  clear hb22 hb23 hvm
  go_upto_region 12 with fail
  have hacc : Hid (accV (newV i fo q) em hZ = (⟨i, fo, q, Q, [hZ]⟩, zeroF, 0)) := Go.Vw.acc_new h1d'.out h2d'.out hQQ.out henm.out sZ'.out
  have hgl := hBZ.out.lt
  have hgr := Lib.hid hBZ.out.range
  have hgi := infoHd okZ
  refine share (G := ∀ (q11 : Nat) (q12 : Nat) (za : Option Addr) (zc : Nat) (ra : Option Addr) (rc : Nat) (ba : Option Addr) (bc : Nat) (WZ : World), (Below w10.heap.size w10 WZ) → (Blk WZ q11 36 ([.int .i64 i, .int .i64 fo, .int .i64 q, .slice za un zc, .slice ra 1 rc])) → (w10.heap.size ≤ q11) → (Blk WZ q12 48 (forkC zeroF ba 0 bc)) → (w10.heap.size ≤ q12) → (q11 ≠ q12) → (VM WZ ⟨i, fo, q, Q, [hZ]⟩ za un zc ra 1 rc) → (0 < un → ∀ ad, za = some ad → ad.block ≠ q11) → (0 < un → ∀ ad, za = some ad → ad.block ≠ q12) → (0 < 1 → ∀ ad, ra = some ad → ad.block ≠ q11) → (0 < 1 → ∀ ad, ra = some ad → ad.block ≠ q12) → (?GfinR12 : Nat → Nat → Option Addr → Nat → Option Addr → Nat → Option Addr → Nat → World → Prop) q11 q12 za zc ra rc ba bc WZ) ?hfinR12 ?kfinR12
  case' hfinR12 =>
    intro KfinR12
  case' hfinR12 =>
    refine share (G := ∀ (q11 : Nat) (q12 : Nat) (za : Option Addr) (zc : Nat) (ra : Option Addr) (rc : Nat) (ba : Option Addr) (bc : Nat) (WZ : World), (Below w10.heap.size w10 WZ) → (Blk WZ q11 36 ([.int .i64 i, .int .i64 fo, .int .i64 q, .slice za un zc, .slice ra 1 rc])) → (w10.heap.size ≤ q11) → (Blk WZ q12 48 (zrF)) → (w10.heap.size ≤ q12) → (q11 ≠ q12) → (VM WZ ⟨i, fo, q, Q, [hZ]⟩ za un zc ra 1 rc) → (0 < un → ∀ ad, za = some ad → ad.block ≠ q11) → (0 < un → ∀ ad, za = some ad → ad.block ≠ q12) → (0 < 1 → ∀ ad, ra = some ad → ad.block ≠ q11) → (0 < 1 → ∀ ad, ra = some ad → ad.block ≠ q12) → (?Gs3_11_12_R12 : Nat → Nat → Option Addr → Nat → Option Addr → Nat → Option Addr → Nat → World → Prop) q11 q12 za zc ra rc ba bc WZ) ?hs3_11_12_R12 ?ks3_11_12_R12
  case' hs3_11_12_R12 => intro Ks3_11_12_R12
  case' hs3_11_12_R12 =>
    refine share (G := ∀ (q11 : Nat) (q12 : Nat) (za : Option Addr) (zc : Nat) (ra : Option Addr) (rc : Nat) (ba : Option Addr) (bc : Nat) (WZ : World), (Below w10.heap.size w10 WZ) → (Blk WZ q11 36 (zrV)) → (w10.heap.size ≤ q11) → (Blk WZ q12 48 (zrF)) → (w10.heap.size ≤ q12) → (q11 ≠ q12) → (VM WZ ⟨i, fo, q, Q, [hZ]⟩ za un zc ra 1 rc) → (0 < un → ∀ ad, za = some ad → ad.block ≠ q11) → (0 < un → ∀ ad, za = some ad → ad.block ≠ q12) → (0 < 1 → ∀ ad, ra = some ad → ad.block ≠ q11) → (0 < 1 → ∀ ad, ra = some ad → ad.block ≠ q12) → (?Gs2_11_12_R12 : Nat → Nat → Option Addr → Nat → Option Addr → Nat → Option Addr → Nat → World → Prop) q11 q12 za zc ra rc ba bc WZ) ?hs2_11_12_R12 ?ks2_11_12_R12
  case' hs2_11_12_R12 => intro Ks2_11_12_R12
  case' hs2_11_12_R12 =>
    refine share (G := ∀ (q11 : Nat) (za : Option Addr) (zc : Nat) (ra : Option Addr) (rc : Nat) (ba : Option Addr) (bc : Nat) (WZ : World), (Below w10.heap.size w10 WZ) → (Blk WZ q11 36 (zrV)) → (w10.heap.size ≤ q11) → (VM WZ ⟨i, fo, q, Q, [hZ]⟩ za un zc ra 1 rc) → (0 < un → ∀ ad, za = some ad → ad.block ≠ q11) → (0 < 1 → ∀ ad, ra = some ad → ad.block ≠ q11) → (?Gs2_11_R12 : Nat → Option Addr → Nat → Option Addr → Nat → Option Addr → Nat → World → Prop) q11 za zc ra rc ba bc WZ) ?hs2_11_R12 ?ks2_11_R12
  case' hs2_11_R12 => intro Ks2_11_R12
  case' hs2_11_R12 =>
    refine share (G := ∀ (q12 : Nat) (za : Option Addr) (zc : Nat) (ra : Option Addr) (rc : Nat) (ba : Option Addr) (bc : Nat) (WZ : World), (Below w10.heap.size w10 WZ) → (Blk WZ q12 48 (zrF)) → (w10.heap.size ≤ q12) → (VM WZ ⟨i, fo, q, Q, [hZ]⟩ za un zc ra 1 rc) → (0 < un → ∀ ad, za = some ad → ad.block ≠ q12) → (0 < 1 → ∀ ad, ra = some ad → ad.block ≠ q12) → (?Gs2_12_R12 : Nat → Option Addr → Nat → Option Addr → Nat → Option Addr → Nat → World → Prop) q12 za zc ra rc ba bc WZ) ?hs2_12_R12 ?ks2_12_R12
  case' hs2_12_R12 => intro Ks2_12_R12
  case' hs2_12_R12 =>
    refine share (G := ∀ (za : Option Addr) (zc : Nat) (ra : Option Addr) (rc : Nat) (ba : Option Addr) (bc : Nat) (WZ : World), (Below w10.heap.size w10 WZ) → (VM WZ ⟨i, fo, q, Q, [hZ]⟩ za un zc ra 1 rc) → (?Gs2_R12 : Option Addr → Nat → Option Addr → Nat → Option Addr → Nat → World → Prop) za zc ra rc ba bc WZ) ?hs2_R12 ?ks2_R12
  case' hs2_R12 => intro Ks2_R12
  case' hs2_R12 =>
    refine share (G := ∀ (q11 : Nat) (q12 : Nat) (WZ : World), (Below w10.heap.size w10 WZ) → (Blk WZ q11 36 (zrV)) → (w10.heap.size ≤ q11) → (Blk WZ q12 48 (zrF)) → (w10.heap.size ≤ q12) → (q11 ≠ q12) → (?Gs1_11_12_R12 : Nat → Nat → World → Prop) q11 q12 WZ) ?hs1_11_12_R12 ?ks1_11_12_R12
  case' hs1_11_12_R12 => intro Ks1_11_12_R12
  case' hs1_11_12_R12 =>
    refine share (G := ∀ (q11 : Nat) (WZ : World), (Below w10.heap.size w10 WZ) → (Blk WZ q11 36 (zrV)) → (w10.heap.size ≤ q11) → (?Gs1_11_R12 : Nat → World → Prop) q11 WZ) ?hs1_11_R12 ?ks1_11_R12
  case' hs1_11_R12 => intro Ks1_11_R12
  case' hs1_11_R12 =>
    refine share (G := ∀ (q12 : Nat) (WZ : World), (Below w10.heap.size w10 WZ) → (Blk WZ q12 48 (zrF)) → (w10.heap.size ≤ q12) → (?Gs1_12_R12 : Nat → World → Prop) q12 WZ) ?hs1_12_R12 ?ks1_12_R12
  case' hs1_12_R12 => intro Ks1_12_R12
  case' hs1_12_R12 =>
    refine share (G := ∀ (WZ : World), (Below w10.heap.size w10 WZ) → (?Gs1_R12 : World → Prop) WZ) ?hs1_R12 ?ks1_R12
  case' hs1_R12 => intro Ks1_R12
  case' hs1_R12 =>
    refine share (G := ∀ (q11 : Nat) (q12 : Nat) (WZ : World), (Below w10.heap.size w10 WZ) → (Blk WZ q11 36 (zrV)) → (w10.heap.size ≤ q11) → (Blk WZ q12 48 (zrF)) → (w10.heap.size ≤ q12) → (q11 ≠ q12) → (?Gs0_11_12_R12 : Nat → Nat → World → Prop) q11 q12 WZ) ?hs0_11_12_R12 ?ks0_11_12_R12
  case' hs0_11_12_R12 => intro Ks0_11_12_R12
  case' hs0_11_12_R12 =>
    refine share (G := ∀ (q11 : Nat) (WZ : World), (Below w10.heap.size w10 WZ) → (Blk WZ q11 36 (zrV)) → (w10.heap.size ≤ q11) → (?Gs0_11_R12 : Nat → World → Prop) q11 WZ) ?hs0_11_R12 ?ks0_11_R12
  case' hs0_11_R12 => intro Ks0_11_R12
  case' hs0_11_R12 =>
    refine share (G := ∀ (q12 : Nat) (WZ : World), (Below w10.heap.size w10 WZ) → (Blk WZ q12 48 (zrF)) → (w10.heap.size ≤ q12) → (?Gs0_12_R12 : Nat → World → Prop) q12 WZ) ?hs0_12_R12 ?ks0_12_R12
  case' hs0_12_R12 => intro Ks0_12_R12
  case hs0_12_R12 =>
    refine wp_region_held_drew (S := fun wz => Below w10.heap.size w10 wz) (by kernel_rfl) ((Below.refl _ w10).drew) (fun hHeld => ?_)
    generalize w10.drew = WZ at *
    refine wpAnyH_take (i := 0) (oi := { dst := some 105, op := Op.move (Operand.tmp 0), type := 3, pos := _, after := _, guard := none }) (v := ?_) rfl (by kernel_rfl) (by kernel_rfl) (by kernel_rfl) (fun _ _ _ h => h) (Or.inl ⟨by rfl, ?_⟩) hHeld ?_
    rotate_left
    · intro wz hSw
      go_simp
      all_goals (with_reducible rfl)
    try simp only [Act.put, List.setIfInBounds_toArray, List.set_cons_zero, List.set_cons_succ]
    refine wpAnyH_take (i := 1) (oi := { dst := some 106, op := Op.move (Operand.tmp 2), type := 3, pos := _, after := _, guard := none }) (v := ?_) rfl (by kernel_rfl) (by kernel_rfl) (by kernel_rfl) (fun _ _ _ h => h) (Or.inl ⟨by rfl, ?_⟩) hHeld ?_
    rotate_left
    · intro wz hSw
      go_simp
      all_goals (with_reducible rfl)
    try simp only [Act.put, List.setIfInBounds_toArray, List.set_cons_zero, List.set_cons_succ]
    refine wpAnyH_take (i := 2) (oi := { dst := some 107, op := Op.move (Operand.tmp 12), type := 3, pos := _, after := _, guard := none }) (v := ?_) rfl (by kernel_rfl) (by kernel_rfl) (by kernel_rfl) (fun _ _ _ h => h) (Or.inl ⟨by rfl, ?_⟩) hHeld ?_
    rotate_left
    · intro wz hSw
      go_simp
      all_goals (with_reducible rfl)
    try simp only [Act.put, List.setIfInBounds_toArray, List.set_cons_zero, List.set_cons_succ]
    refine wpAnyH_take (i := 4) (oi := { dst := some 109, op := Op.move (Operand.tmp 15), type := 31, pos := _, after := _, guard := none }) (v := ?_) rfl (by kernel_rfl) (by kernel_rfl) (by kernel_rfl) (fun _ _ _ h => h) (Or.inl ⟨by rfl, ?_⟩) hHeld ?_
    rotate_left
    · intro wz hSw
      go_simp
      all_goals (with_reducible rfl)
    try simp only [Act.put, List.setIfInBounds_toArray, List.set_cons_zero, List.set_cons_succ]
    refine wpAnyH_take (i := 5) (oi := { dst := some 110, op := Op.load 46 (Operand.tmp 20), type := 46, pos := _, after := _, guard := none }) rfl (by kernel_rfl) (by kernel_rfl) (by kernel_rfl) (fun _ _ _ h => h) (yieldsIf_load_mid (by rfl) _ _ rfl w9.heap.size 0 rfl (hdC hZ) _ (fun wz h => fun j v hv => (h.cell (p := ⟨w9.heap.size, _, none⟩) hgl).trans (hgr.out j v hv)) Tryd.underlying46 rfl (hgi.out)) hHeld ?_
    try simp only [Act.put, List.setIfInBounds_toArray, List.set_cons_zero, List.set_cons_succ]
    refine wpAnyH_ready (rs := [3, 11, 12]) (by kernel_rfl) (by simp) ?_
    refine AllReadyH.cons (o := { dst := some 108, op := Op.call { callee := Callee.value (Operand.func 19), args := #[Operand.tmp 105, Operand.tmp 106, Operand.tmp 107], argTypes := #[3, 3, 3] }, type := 36, pos := _, after := _, guard := none }) rfl (fun K hK => ?_) (AllReadyH.cons (o := { dst := some 25, op := Op.alloc 36, type := 0, pos := _, after := _, guard := none }) rfl (fun K hK => ?_) (AllReadyH.cons (o := { dst := some 26, op := Op.alloc 48, type := 0, pos := _, after := _, guard := none }) rfl (fun K hK => ?_) AllReadyH.nil))
    case refine_1 =>
      rw [if_pos (by rfl)]
      show Oper.wp _ _ _ _ K _
      go_simp
      go_at_call 19
      refine (viewNew_any i fo q _).mono ?_
      rintro e wq ⟨rfl, hst⟩


      refine hK.out _ _ (hHeld.trans (hst.mono hHeld.size)) (fun hHeld2 => ?_)
      clear hK K
      try simp only [Act.put, List.setIfInBounds_toArray, List.set_cons_zero, List.set_cons_succ]
      exact Ks1_R12  wq (hHeld2)
    case refine_2 =>
      rw [if_pos (by rfl)]
      show Oper.wp _ _ _ _ K _
      go_simp
      refine hK.out _ _ (hHeld.alloc hHeld.size _) (fun hHeld2 => ?_)
      clear hK K
      try simp only [Act.put, List.setIfInBounds_toArray, List.set_cons_zero, List.set_cons_succ]
      generalize hW2 : World.alloc WZ _ = W2
      rw [hW2] at hHeld2
      generalize hq : WZ.heap.size = q11
      have hBn : Blk W2 q11 36 (zrV) := by rw [← hW2, ← hq]; exact Blk.new _ _ _
      have hLn := hHeld.size
      rw [hq] at hLn
      clear hW2 hq
      exact Ks0_11_R12 q11 W2 (hHeld2) (hBn) (hLn)
    case refine_3 =>
      rw [if_pos (by rfl)]
      show Oper.wp _ _ _ _ K _
      go_simp
      refine hK.out _ _ (hHeld.alloc hHeld.size _) (fun hHeld2 => ?_)
      clear hK K
      try simp only [Act.put, List.setIfInBounds_toArray, List.set_cons_zero, List.set_cons_succ]
      generalize hW2 : World.alloc WZ _ = W2
      rw [hW2] at hHeld2
      generalize hq : WZ.heap.size = q12
      have hBn : Blk W2 q12 48 (zrF) := by rw [← hW2, ← hq]; exact Blk.new _ _ _
      have hLn := hHeld.size
      rw [hq] at hLn
      clear hW2 hq
      exact Ks0_12_R12 q12 W2 (hHeld2) (hBn) (hLn)
  case ks0_12_R12 =>
    intro q12 WZ hHeld hB12 hL12
    refine wpAnyH_ready (rs := [3, 11]) (by kernel_rfl) (by simp) ?_
    refine AllReadyH.cons (o := { dst := some 108, op := Op.call { callee := Callee.value (Operand.func 19), args := #[Operand.tmp 105, Operand.tmp 106, Operand.tmp 107], argTypes := #[3, 3, 3] }, type := 36, pos := _, after := _, guard := none }) rfl (fun K hK => ?_) (AllReadyH.cons (o := { dst := some 25, op := Op.alloc 36, type := 0, pos := _, after := _, guard := none }) rfl (fun K hK => ?_) AllReadyH.nil)
    case refine_1 =>
      rw [if_pos (by rfl)]
      show Oper.wp _ _ _ _ K _
      go_simp
      go_at_call 19
      refine (viewNew_any i fo q _).mono ?_
      rintro e wq ⟨rfl, hst⟩


      refine hK.out _ _ (hHeld.trans (hst.mono hHeld.size)) (fun hHeld2 => ?_)
      clear hK K
      try simp only [Act.put, List.setIfInBounds_toArray, List.set_cons_zero, List.set_cons_succ]
      exact Ks1_12_R12 q12 wq (hHeld2) (hB12.below hst hB12.lt) (hL12)
    case refine_2 =>
      rw [if_pos (by rfl)]
      show Oper.wp _ _ _ _ K _
      go_simp
      refine hK.out _ _ (hHeld.alloc hHeld.size _) (fun hHeld2 => ?_)
      clear hK K
      try simp only [Act.put, List.setIfInBounds_toArray, List.set_cons_zero, List.set_cons_succ]
      generalize hW2 : World.alloc WZ _ = W2
      rw [hW2] at hHeld2
      generalize hq : WZ.heap.size = q11
      have hBn : Blk W2 q11 36 (zrV) := by rw [← hW2, ← hq]; exact Blk.new _ _ _
      have hLn := hHeld.size
      rw [hq] at hLn
      have hB12' : Blk W2 q12 48 (zrF) := by rw [← hW2]; exact hB12.alloc _
      have hN12' := hB12.lt
      rw [hq] at hN12'
      clear hW2 hq
      exact Ks0_11_12_R12 q11 q12 W2 (hHeld2) (hBn) (hLn) (hB12') (hL12) ((by omega))
  case ks0_11_R12 =>
    intro q11 WZ hHeld hB11 hL11
    refine wpAnyH_ready (rs := [3, 12]) (by kernel_rfl) (by simp) ?_
    refine AllReadyH.cons (o := { dst := some 108, op := Op.call { callee := Callee.value (Operand.func 19), args := #[Operand.tmp 105, Operand.tmp 106, Operand.tmp 107], argTypes := #[3, 3, 3] }, type := 36, pos := _, after := _, guard := none }) rfl (fun K hK => ?_) (AllReadyH.cons (o := { dst := some 26, op := Op.alloc 48, type := 0, pos := _, after := _, guard := none }) rfl (fun K hK => ?_) AllReadyH.nil)
    case refine_1 =>
      rw [if_pos (by rfl)]
      show Oper.wp _ _ _ _ K _
      go_simp
      go_at_call 19
      refine (viewNew_any i fo q _).mono ?_
      rintro e wq ⟨rfl, hst⟩


      refine hK.out _ _ (hHeld.trans (hst.mono hHeld.size)) (fun hHeld2 => ?_)
      clear hK K
      try simp only [Act.put, List.setIfInBounds_toArray, List.set_cons_zero, List.set_cons_succ]
      exact Ks1_11_R12 q11 wq (hHeld2) (hB11.below hst hB11.lt) (hL11)
    case refine_2 =>
      rw [if_pos (by rfl)]
      show Oper.wp _ _ _ _ K _
      go_simp
      refine hK.out _ _ (hHeld.alloc hHeld.size _) (fun hHeld2 => ?_)
      clear hK K
      try simp only [Act.put, List.setIfInBounds_toArray, List.set_cons_zero, List.set_cons_succ]
      generalize hW2 : World.alloc WZ _ = W2
      rw [hW2] at hHeld2
      generalize hq : WZ.heap.size = q12
      have hBn : Blk W2 q12 48 (zrF) := by rw [← hW2, ← hq]; exact Blk.new _ _ _
      have hLn := hHeld.size
      rw [hq] at hLn
      have hB11' : Blk W2 q11 36 (zrV) := by rw [← hW2]; exact hB11.alloc _
      have hN11' := hB11.lt
      rw [hq] at hN11'
      clear hW2 hq
      exact Ks0_11_12_R12 q11 q12 W2 (hHeld2) (hB11') (hL11) (hBn) (hLn) ((by omega))
  case ks0_11_12_R12 =>
    intro q11 q12 WZ hHeld hB11 hL11 hB12 hL12 hN11_12
    refine wpAnyH_ready (rs := [3]) (by kernel_rfl) (by simp) ?_
    refine AllReadyH.cons (o := { dst := some 108, op := Op.call { callee := Callee.value (Operand.func 19), args := #[Operand.tmp 105, Operand.tmp 106, Operand.tmp 107], argTypes := #[3, 3, 3] }, type := 36, pos := _, after := _, guard := none }) rfl (fun K hK => ?_) AllReadyH.nil
    rw [if_pos (by rfl)]
    show Oper.wp _ _ _ _ K _
    go_simp
    go_at_call 19
    refine (viewNew_any i fo q _).mono ?_
    rintro e wq ⟨rfl, hst⟩


    refine hK.out _ _ (hHeld.trans (hst.mono hHeld.size)) (fun hHeld2 => ?_)
    clear hK K
    try simp only [Act.put, List.setIfInBounds_toArray, List.set_cons_zero, List.set_cons_succ]
    exact Ks1_11_12_R12 q11 q12 wq (hHeld2) (hB11.below hst hB11.lt) (hL11) (hB12.below hst hB12.lt) (hL12) (hN11_12)
  case ks1_R12 =>
    intro  WZ hHeld
    refine wpAnyH_ready (rs := [6, 11, 12]) (by kernel_rfl) (by simp) ?_
    refine AllReadyH.cons (o := { dst := some 111, op := Op.call { callee := Callee.value (Operand.func 18), args := #[Operand.tmp 108, Operand.tmp 109, Operand.tmp 110], argTypes := #[36, 31, 46] }, type := 57, pos := _, after := _, guard := none }) rfl (fun K hK => ?_) (AllReadyH.cons (o := { dst := some 25, op := Op.alloc 36, type := 0, pos := _, after := _, guard := none }) rfl (fun K hK => ?_) (AllReadyH.cons (o := { dst := some 26, op := Op.alloc 48, type := 0, pos := _, after := _, guard := none }) rfl (fun K hK => ?_) AllReadyH.nil))
    case refine_1 =>
      rw [if_pos (by rfl)]
      show Oper.wp _ _ _ _ K _
      go_simp
      go_at_call 18
      have hac := accept_sep (newV i fo q) none 0 0 none 0 0 a15 un c15 em hZ okZ _ (HT'.out.below (hbw.out.trans (hHeld.mono hbw.out.size))) (vmN iid ifo hpq64.out _) (hEm.out.below hHeld) (by decide)
      rw [hacc.out] at hac
      refine hac.mono ?_
      rintro e wq ⟨za, xn, zc, ra, yn, rc, ba, fn, bc, rfl, hVM, _, hDf, _, hst, hF1, hF2, _⟩
      have exn : xn = un := hVM.ds.len.symm.trans hQn.out
      subst xn
      obtain rfl : yn = 1 := hVM.hs.rs.len.symm
      obtain rfl : fn = 0 := hDf.len.symm

      refine hK.out _ _ (hHeld.trans (hst.mono hHeld.size)) (fun hHeld2 => ?_)
      clear hK K
      refine wpAnyH_take (i := 7) (oi := { dst := some 104, op := Op.move (Operand.tmp 111), type := 57, pos := _, after := _, guard := none }) (v := ?_) rfl (by kernel_rfl) (by kernel_rfl) (by kernel_rfl) (fun _ _ _ h => h) (Or.inl ⟨by rfl, ?_⟩) hHeld2 ?_
      rotate_left
      · intro wz hSw
        go_simp
        all_goals (with_reducible rfl)
      try simp only [Act.put, List.setIfInBounds_toArray, List.set_cons_zero, List.set_cons_succ]
      refine wpAnyH_take (i := 8) (oi := { dst := some 112, op := Op.extract (Operand.tmp 104) 0, type := 36, pos := _, after := _, guard := none }) (v := ?_) rfl (by kernel_rfl) (by kernel_rfl) (by kernel_rfl) (fun _ _ _ h => h) (Or.inl ⟨by rfl, ?_⟩) hHeld2 ?_
      rotate_left
      · intro wz hSw
        go_simp
        all_goals (with_reducible rfl)
      try simp only [Act.put, List.setIfInBounds_toArray, List.set_cons_zero, List.set_cons_succ]
      refine wpAnyH_take (i := 9) (oi := { dst := some 113, op := Op.extract (Operand.tmp 104) 1, type := 48, pos := _, after := _, guard := none }) (v := ?_) rfl (by kernel_rfl) (by kernel_rfl) (by kernel_rfl) (fun _ _ _ h => h) (Or.inl ⟨by rfl, ?_⟩) hHeld2 ?_
      rotate_left
      · intro wz hSw
        go_simp
        all_goals (with_reducible rfl)
      try simp only [Act.put, List.setIfInBounds_toArray, List.set_cons_zero, List.set_cons_succ]
      refine wpAnyH_take (i := 10) (oi := { dst := some 114, op := Op.extract (Operand.tmp 104) 2, type := 39, pos := _, after := _, guard := none }) (v := ?_) rfl (by kernel_rfl) (by kernel_rfl) (by kernel_rfl) (fun _ _ _ h => h) (Or.inl ⟨by rfl, ?_⟩) hHeld2 ?_
      rotate_left
      · intro wz hSw
        go_simp
        all_goals (with_reducible rfl)
      try simp only [Act.put, List.setIfInBounds_toArray, List.set_cons_zero, List.set_cons_succ]
      exact Ks2_R12 za zc ra rc ba bc wq (hHeld2) (hVM)
    case refine_2 =>
      rw [if_pos (by rfl)]
      show Oper.wp _ _ _ _ K _
      go_simp
      refine hK.out _ _ (hHeld.alloc hHeld.size _) (fun hHeld2 => ?_)
      clear hK K
      try simp only [Act.put, List.setIfInBounds_toArray, List.set_cons_zero, List.set_cons_succ]
      generalize hW2 : World.alloc WZ _ = W2
      rw [hW2] at hHeld2
      generalize hq : WZ.heap.size = q11
      have hBn : Blk W2 q11 36 (zrV) := by rw [← hW2, ← hq]; exact Blk.new _ _ _
      have hLn := hHeld.size
      rw [hq] at hLn
      clear hW2 hq
      exact Ks1_11_R12 q11 W2 (hHeld2) (hBn) (hLn)
    case refine_3 =>
      rw [if_pos (by rfl)]
      show Oper.wp _ _ _ _ K _
      go_simp
      refine hK.out _ _ (hHeld.alloc hHeld.size _) (fun hHeld2 => ?_)
      clear hK K
      try simp only [Act.put, List.setIfInBounds_toArray, List.set_cons_zero, List.set_cons_succ]
      generalize hW2 : World.alloc WZ _ = W2
      rw [hW2] at hHeld2
      generalize hq : WZ.heap.size = q12
      have hBn : Blk W2 q12 48 (zrF) := by rw [← hW2, ← hq]; exact Blk.new _ _ _
      have hLn := hHeld.size
      rw [hq] at hLn
      clear hW2 hq
      exact Ks1_12_R12 q12 W2 (hHeld2) (hBn) (hLn)
  case ks1_12_R12 =>
    intro q12 WZ hHeld hB12 hL12
    refine wpAnyH_ready (rs := [6, 11]) (by kernel_rfl) (by simp) ?_
    refine AllReadyH.cons (o := { dst := some 111, op := Op.call { callee := Callee.value (Operand.func 18), args := #[Operand.tmp 108, Operand.tmp 109, Operand.tmp 110], argTypes := #[36, 31, 46] }, type := 57, pos := _, after := _, guard := none }) rfl (fun K hK => ?_) (AllReadyH.cons (o := { dst := some 25, op := Op.alloc 36, type := 0, pos := _, after := _, guard := none }) rfl (fun K hK => ?_) AllReadyH.nil)
    case refine_1 =>
      rw [if_pos (by rfl)]
      show Oper.wp _ _ _ _ K _
      go_simp
      go_at_call 18
      have hac := accept_sep (newV i fo q) none 0 0 none 0 0 a15 un c15 em hZ okZ _ (HT'.out.below (hbw.out.trans (hHeld.mono hbw.out.size))) (vmN iid ifo hpq64.out _) (hEm.out.below hHeld) (by decide)
      rw [hacc.out] at hac
      refine hac.mono ?_
      rintro e wq ⟨za, xn, zc, ra, yn, rc, ba, fn, bc, rfl, hVM, _, hDf, _, hst, hF1, hF2, _⟩
      have exn : xn = un := hVM.ds.len.symm.trans hQn.out
      subst xn
      obtain rfl : yn = 1 := hVM.hs.rs.len.symm
      obtain rfl : fn = 0 := hDf.len.symm
      have hS12a' : 0 < un → ∀ ad, za = some ad → ad.block ≠ q12 := fun hp ad e => by
        rcases hF1 hp ad e with hz | hz
        · have := hB12.lt; omega
        · cases hz
      have hS12b' : 0 < 1 → ∀ ad, ra = some ad → ad.block ≠ q12 := fun hp ad e => by
        rcases hF2 hp ad e with hz | hz
        · have := hB12.lt; omega
        · cases hz
      refine hK.out _ _ (hHeld.trans (hst.mono hHeld.size)) (fun hHeld2 => ?_)
      clear hK K
      refine wpAnyH_take (i := 7) (oi := { dst := some 104, op := Op.move (Operand.tmp 111), type := 57, pos := _, after := _, guard := none }) (v := ?_) rfl (by kernel_rfl) (by kernel_rfl) (by kernel_rfl) (fun _ _ _ h => h) (Or.inl ⟨by rfl, ?_⟩) hHeld2 ?_
      rotate_left
      · intro wz hSw
        go_simp
        all_goals (with_reducible rfl)
      try simp only [Act.put, List.setIfInBounds_toArray, List.set_cons_zero, List.set_cons_succ]
      refine wpAnyH_take (i := 8) (oi := { dst := some 112, op := Op.extract (Operand.tmp 104) 0, type := 36, pos := _, after := _, guard := none }) (v := ?_) rfl (by kernel_rfl) (by kernel_rfl) (by kernel_rfl) (fun _ _ _ h => h) (Or.inl ⟨by rfl, ?_⟩) hHeld2 ?_
      rotate_left
      · intro wz hSw
        go_simp
        all_goals (with_reducible rfl)
      try simp only [Act.put, List.setIfInBounds_toArray, List.set_cons_zero, List.set_cons_succ]
      refine wpAnyH_take (i := 9) (oi := { dst := some 113, op := Op.extract (Operand.tmp 104) 1, type := 48, pos := _, after := _, guard := none }) (v := ?_) rfl (by kernel_rfl) (by kernel_rfl) (by kernel_rfl) (fun _ _ _ h => h) (Or.inl ⟨by rfl, ?_⟩) hHeld2 ?_
      rotate_left
      · intro wz hSw
        go_simp
        all_goals (with_reducible rfl)
      try simp only [Act.put, List.setIfInBounds_toArray, List.set_cons_zero, List.set_cons_succ]
      refine wpAnyH_take (i := 10) (oi := { dst := some 114, op := Op.extract (Operand.tmp 104) 2, type := 39, pos := _, after := _, guard := none }) (v := ?_) rfl (by kernel_rfl) (by kernel_rfl) (by kernel_rfl) (fun _ _ _ h => h) (Or.inl ⟨by rfl, ?_⟩) hHeld2 ?_
      rotate_left
      · intro wz hSw
        go_simp
        all_goals (with_reducible rfl)
      try simp only [Act.put, List.setIfInBounds_toArray, List.set_cons_zero, List.set_cons_succ]
      exact Ks2_12_R12 q12 za zc ra rc ba bc wq (hHeld2) (hB12.below hst hB12.lt) (hL12) (hVM) (hS12a') (hS12b')
    case refine_2 =>
      rw [if_pos (by rfl)]
      show Oper.wp _ _ _ _ K _
      go_simp
      refine hK.out _ _ (hHeld.alloc hHeld.size _) (fun hHeld2 => ?_)
      clear hK K
      try simp only [Act.put, List.setIfInBounds_toArray, List.set_cons_zero, List.set_cons_succ]
      generalize hW2 : World.alloc WZ _ = W2
      rw [hW2] at hHeld2
      generalize hq : WZ.heap.size = q11
      have hBn : Blk W2 q11 36 (zrV) := by rw [← hW2, ← hq]; exact Blk.new _ _ _
      have hLn := hHeld.size
      rw [hq] at hLn
      have hB12' : Blk W2 q12 48 (zrF) := by rw [← hW2]; exact hB12.alloc _
      have hN12' := hB12.lt
      rw [hq] at hN12'
      clear hW2 hq
      exact Ks1_11_12_R12 q11 q12 W2 (hHeld2) (hBn) (hLn) (hB12') (hL12) ((by omega))
  case ks1_11_R12 =>
    intro q11 WZ hHeld hB11 hL11
    refine wpAnyH_ready (rs := [6, 12]) (by kernel_rfl) (by simp) ?_
    refine AllReadyH.cons (o := { dst := some 111, op := Op.call { callee := Callee.value (Operand.func 18), args := #[Operand.tmp 108, Operand.tmp 109, Operand.tmp 110], argTypes := #[36, 31, 46] }, type := 57, pos := _, after := _, guard := none }) rfl (fun K hK => ?_) (AllReadyH.cons (o := { dst := some 26, op := Op.alloc 48, type := 0, pos := _, after := _, guard := none }) rfl (fun K hK => ?_) AllReadyH.nil)
    case refine_1 =>
      rw [if_pos (by rfl)]
      show Oper.wp _ _ _ _ K _
      go_simp
      go_at_call 18
      have hac := accept_sep (newV i fo q) none 0 0 none 0 0 a15 un c15 em hZ okZ _ (HT'.out.below (hbw.out.trans (hHeld.mono hbw.out.size))) (vmN iid ifo hpq64.out _) (hEm.out.below hHeld) (by decide)
      rw [hacc.out] at hac
      refine hac.mono ?_
      rintro e wq ⟨za, xn, zc, ra, yn, rc, ba, fn, bc, rfl, hVM, _, hDf, _, hst, hF1, hF2, _⟩
      have exn : xn = un := hVM.ds.len.symm.trans hQn.out
      subst xn
      obtain rfl : yn = 1 := hVM.hs.rs.len.symm
      obtain rfl : fn = 0 := hDf.len.symm
      have hS11a' : 0 < un → ∀ ad, za = some ad → ad.block ≠ q11 := fun hp ad e => by
        rcases hF1 hp ad e with hz | hz
        · have := hB11.lt; omega
        · cases hz
      have hS11b' : 0 < 1 → ∀ ad, ra = some ad → ad.block ≠ q11 := fun hp ad e => by
        rcases hF2 hp ad e with hz | hz
        · have := hB11.lt; omega
        · cases hz
      refine hK.out _ _ (hHeld.trans (hst.mono hHeld.size)) (fun hHeld2 => ?_)
      clear hK K
      refine wpAnyH_take (i := 7) (oi := { dst := some 104, op := Op.move (Operand.tmp 111), type := 57, pos := _, after := _, guard := none }) (v := ?_) rfl (by kernel_rfl) (by kernel_rfl) (by kernel_rfl) (fun _ _ _ h => h) (Or.inl ⟨by rfl, ?_⟩) hHeld2 ?_
      rotate_left
      · intro wz hSw
        go_simp
        all_goals (with_reducible rfl)
      try simp only [Act.put, List.setIfInBounds_toArray, List.set_cons_zero, List.set_cons_succ]
      refine wpAnyH_take (i := 8) (oi := { dst := some 112, op := Op.extract (Operand.tmp 104) 0, type := 36, pos := _, after := _, guard := none }) (v := ?_) rfl (by kernel_rfl) (by kernel_rfl) (by kernel_rfl) (fun _ _ _ h => h) (Or.inl ⟨by rfl, ?_⟩) hHeld2 ?_
      rotate_left
      · intro wz hSw
        go_simp
        all_goals (with_reducible rfl)
      try simp only [Act.put, List.setIfInBounds_toArray, List.set_cons_zero, List.set_cons_succ]
      refine wpAnyH_take (i := 9) (oi := { dst := some 113, op := Op.extract (Operand.tmp 104) 1, type := 48, pos := _, after := _, guard := none }) (v := ?_) rfl (by kernel_rfl) (by kernel_rfl) (by kernel_rfl) (fun _ _ _ h => h) (Or.inl ⟨by rfl, ?_⟩) hHeld2 ?_
      rotate_left
      · intro wz hSw
        go_simp
        all_goals (with_reducible rfl)
      try simp only [Act.put, List.setIfInBounds_toArray, List.set_cons_zero, List.set_cons_succ]
      refine wpAnyH_take (i := 10) (oi := { dst := some 114, op := Op.extract (Operand.tmp 104) 2, type := 39, pos := _, after := _, guard := none }) (v := ?_) rfl (by kernel_rfl) (by kernel_rfl) (by kernel_rfl) (fun _ _ _ h => h) (Or.inl ⟨by rfl, ?_⟩) hHeld2 ?_
      rotate_left
      · intro wz hSw
        go_simp
        all_goals (with_reducible rfl)
      try simp only [Act.put, List.setIfInBounds_toArray, List.set_cons_zero, List.set_cons_succ]
      exact Ks2_11_R12 q11 za zc ra rc ba bc wq (hHeld2) (hB11.below hst hB11.lt) (hL11) (hVM) (hS11a') (hS11b')
    case refine_2 =>
      rw [if_pos (by rfl)]
      show Oper.wp _ _ _ _ K _
      go_simp
      refine hK.out _ _ (hHeld.alloc hHeld.size _) (fun hHeld2 => ?_)
      clear hK K
      try simp only [Act.put, List.setIfInBounds_toArray, List.set_cons_zero, List.set_cons_succ]
      generalize hW2 : World.alloc WZ _ = W2
      rw [hW2] at hHeld2
      generalize hq : WZ.heap.size = q12
      have hBn : Blk W2 q12 48 (zrF) := by rw [← hW2, ← hq]; exact Blk.new _ _ _
      have hLn := hHeld.size
      rw [hq] at hLn
      have hB11' : Blk W2 q11 36 (zrV) := by rw [← hW2]; exact hB11.alloc _
      have hN11' := hB11.lt
      rw [hq] at hN11'
      clear hW2 hq
      exact Ks1_11_12_R12 q11 q12 W2 (hHeld2) (hB11') (hL11) (hBn) (hLn) ((by omega))
  case ks1_11_12_R12 =>
    intro q11 q12 WZ hHeld hB11 hL11 hB12 hL12 hN11_12
    refine wpAnyH_ready (rs := [6]) (by kernel_rfl) (by simp) ?_
    refine AllReadyH.cons (o := { dst := some 111, op := Op.call { callee := Callee.value (Operand.func 18), args := #[Operand.tmp 108, Operand.tmp 109, Operand.tmp 110], argTypes := #[36, 31, 46] }, type := 57, pos := _, after := _, guard := none }) rfl (fun K hK => ?_) AllReadyH.nil
    rw [if_pos (by rfl)]
    show Oper.wp _ _ _ _ K _
    go_simp
    go_at_call 18
    have hac := accept_sep (newV i fo q) none 0 0 none 0 0 a15 un c15 em hZ okZ _ (HT'.out.below (hbw.out.trans (hHeld.mono hbw.out.size))) (vmN iid ifo hpq64.out _) (hEm.out.below hHeld) (by decide)
    rw [hacc.out] at hac
    refine hac.mono ?_
    rintro e wq ⟨za, xn, zc, ra, yn, rc, ba, fn, bc, rfl, hVM, _, hDf, _, hst, hF1, hF2, _⟩
    have exn : xn = un := hVM.ds.len.symm.trans hQn.out
    subst xn
    obtain rfl : yn = 1 := hVM.hs.rs.len.symm
    obtain rfl : fn = 0 := hDf.len.symm
    have hS11a' : 0 < un → ∀ ad, za = some ad → ad.block ≠ q11 := fun hp ad e => by
      rcases hF1 hp ad e with hz | hz
      · have := hB11.lt; omega
      · cases hz
    have hS12a' : 0 < un → ∀ ad, za = some ad → ad.block ≠ q12 := fun hp ad e => by
      rcases hF1 hp ad e with hz | hz
      · have := hB12.lt; omega
      · cases hz
    have hS11b' : 0 < 1 → ∀ ad, ra = some ad → ad.block ≠ q11 := fun hp ad e => by
      rcases hF2 hp ad e with hz | hz
      · have := hB11.lt; omega
      · cases hz
    have hS12b' : 0 < 1 → ∀ ad, ra = some ad → ad.block ≠ q12 := fun hp ad e => by
      rcases hF2 hp ad e with hz | hz
      · have := hB12.lt; omega
      · cases hz
    refine hK.out _ _ (hHeld.trans (hst.mono hHeld.size)) (fun hHeld2 => ?_)
    clear hK K
    refine wpAnyH_take (i := 7) (oi := { dst := some 104, op := Op.move (Operand.tmp 111), type := 57, pos := _, after := _, guard := none }) (v := ?_) rfl (by kernel_rfl) (by kernel_rfl) (by kernel_rfl) (fun _ _ _ h => h) (Or.inl ⟨by rfl, ?_⟩) hHeld2 ?_
    rotate_left
    · intro wz hSw
      go_simp
      all_goals (with_reducible rfl)
    try simp only [Act.put, List.setIfInBounds_toArray, List.set_cons_zero, List.set_cons_succ]
    refine wpAnyH_take (i := 8) (oi := { dst := some 112, op := Op.extract (Operand.tmp 104) 0, type := 36, pos := _, after := _, guard := none }) (v := ?_) rfl (by kernel_rfl) (by kernel_rfl) (by kernel_rfl) (fun _ _ _ h => h) (Or.inl ⟨by rfl, ?_⟩) hHeld2 ?_
    rotate_left
    · intro wz hSw
      go_simp
      all_goals (with_reducible rfl)
    try simp only [Act.put, List.setIfInBounds_toArray, List.set_cons_zero, List.set_cons_succ]
    refine wpAnyH_take (i := 9) (oi := { dst := some 113, op := Op.extract (Operand.tmp 104) 1, type := 48, pos := _, after := _, guard := none }) (v := ?_) rfl (by kernel_rfl) (by kernel_rfl) (by kernel_rfl) (fun _ _ _ h => h) (Or.inl ⟨by rfl, ?_⟩) hHeld2 ?_
    rotate_left
    · intro wz hSw
      go_simp
      all_goals (with_reducible rfl)
    try simp only [Act.put, List.setIfInBounds_toArray, List.set_cons_zero, List.set_cons_succ]
    refine wpAnyH_take (i := 10) (oi := { dst := some 114, op := Op.extract (Operand.tmp 104) 2, type := 39, pos := _, after := _, guard := none }) (v := ?_) rfl (by kernel_rfl) (by kernel_rfl) (by kernel_rfl) (fun _ _ _ h => h) (Or.inl ⟨by rfl, ?_⟩) hHeld2 ?_
    rotate_left
    · intro wz hSw
      go_simp
      all_goals (with_reducible rfl)
    try simp only [Act.put, List.setIfInBounds_toArray, List.set_cons_zero, List.set_cons_succ]
    exact Ks2_11_12_R12 q11 q12 za zc ra rc ba bc wq (hHeld2) (hB11.below hst hB11.lt) (hL11) (hB12.below hst hB12.lt) (hL12) (hN11_12) (hVM) (hS11a') (hS12a') (hS11b') (hS12b')
  case ks2_R12 =>
    intro za zc ra rc ba bc WZ hHeld hVM
    refine wpAnyH_ready (rs := [11, 12]) (by kernel_rfl) (by simp) ?_
    refine AllReadyH.cons (o := { dst := some 25, op := Op.alloc 36, type := 0, pos := _, after := _, guard := none }) rfl (fun K hK => ?_) (AllReadyH.cons (o := { dst := some 26, op := Op.alloc 48, type := 0, pos := _, after := _, guard := none }) rfl (fun K hK => ?_) AllReadyH.nil)
    case refine_1 =>
      rw [if_pos (by rfl)]
      show Oper.wp _ _ _ _ K _
      go_simp
      refine hK.out _ _ (hHeld.alloc hHeld.size _) (fun hHeld2 => ?_)
      clear hK K
      try simp only [Act.put, List.setIfInBounds_toArray, List.set_cons_zero, List.set_cons_succ]
      generalize hW2 : World.alloc WZ _ = W2
      rw [hW2] at hHeld2
      generalize hq : WZ.heap.size = q11
      have hBn : Blk W2 q11 36 (zrV) := by rw [← hW2, ← hq]; exact Blk.new _ _ _
      have hLn := hHeld.size
      rw [hq] at hLn
      have hVM' : VM W2 ⟨i, fo, q, Q, [hZ]⟩ za un zc ra 1 rc := by rw [← hW2]; exact hVM.below ((Below.refl _ WZ).alloc (Nat.le_refl _) _)
      have hSna : 0 < un → ∀ ad, za = some ad → ad.block ≠ q11 := fun hp ad e => by have hz := hVM.ds.at_lt hp ad e; rw [hq] at hz; omega
      have hSnb : 0 < 1 → ∀ ad, ra = some ad → ad.block ≠ q11 := fun hp ad e => by have hz := hVM.hs.at_lt hp ad e; rw [hq] at hz; omega
      clear hW2 hq
      exact Ks2_11_R12 q11 za zc ra rc ba bc W2 (hHeld2) (hBn) (hLn) (hVM') (hSna) (hSnb)
    case refine_2 =>
      rw [if_pos (by rfl)]
      show Oper.wp _ _ _ _ K _
      go_simp
      refine hK.out _ _ (hHeld.alloc hHeld.size _) (fun hHeld2 => ?_)
      clear hK K
      try simp only [Act.put, List.setIfInBounds_toArray, List.set_cons_zero, List.set_cons_succ]
      generalize hW2 : World.alloc WZ _ = W2
      rw [hW2] at hHeld2
      generalize hq : WZ.heap.size = q12
      have hBn : Blk W2 q12 48 (zrF) := by rw [← hW2, ← hq]; exact Blk.new _ _ _
      have hLn := hHeld.size
      rw [hq] at hLn
      have hVM' : VM W2 ⟨i, fo, q, Q, [hZ]⟩ za un zc ra 1 rc := by rw [← hW2]; exact hVM.below ((Below.refl _ WZ).alloc (Nat.le_refl _) _)
      have hSna : 0 < un → ∀ ad, za = some ad → ad.block ≠ q12 := fun hp ad e => by have hz := hVM.ds.at_lt hp ad e; rw [hq] at hz; omega
      have hSnb : 0 < 1 → ∀ ad, ra = some ad → ad.block ≠ q12 := fun hp ad e => by have hz := hVM.hs.at_lt hp ad e; rw [hq] at hz; omega
      clear hW2 hq
      exact Ks2_12_R12 q12 za zc ra rc ba bc W2 (hHeld2) (hBn) (hLn) (hVM') (hSna) (hSnb)
  case ks2_12_R12 =>
    intro q12 za zc ra rc ba bc WZ hHeld hB12 hL12 hVM hS12a hS12b
    refine wpAnyH_ready (rs := [11]) (by kernel_rfl) (by simp) ?_
    refine AllReadyH.cons (o := { dst := some 25, op := Op.alloc 36, type := 0, pos := _, after := _, guard := none }) rfl (fun K hK => ?_) AllReadyH.nil
    rw [if_pos (by rfl)]
    show Oper.wp _ _ _ _ K _
    go_simp
    refine hK.out _ _ (hHeld.alloc hHeld.size _) (fun hHeld2 => ?_)
    clear hK K
    try simp only [Act.put, List.setIfInBounds_toArray, List.set_cons_zero, List.set_cons_succ]
    generalize hW2 : World.alloc WZ _ = W2
    rw [hW2] at hHeld2
    generalize hq : WZ.heap.size = q11
    have hBn : Blk W2 q11 36 (zrV) := by rw [← hW2, ← hq]; exact Blk.new _ _ _
    have hLn := hHeld.size
    rw [hq] at hLn
    have hB12' : Blk W2 q12 48 (zrF) := by rw [← hW2]; exact hB12.alloc _
    have hN12' := hB12.lt
    rw [hq] at hN12'
    have hVM' : VM W2 ⟨i, fo, q, Q, [hZ]⟩ za un zc ra 1 rc := by rw [← hW2]; exact hVM.below ((Below.refl _ WZ).alloc (Nat.le_refl _) _)
    have hSna : 0 < un → ∀ ad, za = some ad → ad.block ≠ q11 := fun hp ad e => by have hz := hVM.ds.at_lt hp ad e; rw [hq] at hz; omega
    have hSnb : 0 < 1 → ∀ ad, ra = some ad → ad.block ≠ q11 := fun hp ad e => by have hz := hVM.hs.at_lt hp ad e; rw [hq] at hz; omega
    clear hW2 hq
    exact Ks2_11_12_R12 q11 q12 za zc ra rc ba bc W2 (hHeld2) (hBn) (hLn) (hB12') (hL12) ((by omega)) (hVM') (hSna) (hS12a) (hSnb) (hS12b)
  case ks2_11_R12 =>
    intro q11 za zc ra rc ba bc WZ hHeld hB11 hL11 hVM hS11a hS11b
    refine wpAnyH_ready (rs := [12]) (by kernel_rfl) (by simp) ?_
    refine AllReadyH.cons (o := { dst := some 26, op := Op.alloc 48, type := 0, pos := _, after := _, guard := none }) rfl (fun K hK => ?_) AllReadyH.nil
    rw [if_pos (by rfl)]
    show Oper.wp _ _ _ _ K _
    go_simp
    refine hK.out _ _ (hHeld.alloc hHeld.size _) (fun hHeld2 => ?_)
    clear hK K
    try simp only [Act.put, List.setIfInBounds_toArray, List.set_cons_zero, List.set_cons_succ]
    generalize hW2 : World.alloc WZ _ = W2
    rw [hW2] at hHeld2
    generalize hq : WZ.heap.size = q12
    have hBn : Blk W2 q12 48 (zrF) := by rw [← hW2, ← hq]; exact Blk.new _ _ _
    have hLn := hHeld.size
    rw [hq] at hLn
    have hB11' : Blk W2 q11 36 (zrV) := by rw [← hW2]; exact hB11.alloc _
    have hN11' := hB11.lt
    rw [hq] at hN11'
    have hVM' : VM W2 ⟨i, fo, q, Q, [hZ]⟩ za un zc ra 1 rc := by rw [← hW2]; exact hVM.below ((Below.refl _ WZ).alloc (Nat.le_refl _) _)
    have hSna : 0 < un → ∀ ad, za = some ad → ad.block ≠ q12 := fun hp ad e => by have hz := hVM.ds.at_lt hp ad e; rw [hq] at hz; omega
    have hSnb : 0 < 1 → ∀ ad, ra = some ad → ad.block ≠ q12 := fun hp ad e => by have hz := hVM.hs.at_lt hp ad e; rw [hq] at hz; omega
    clear hW2 hq
    exact Ks2_11_12_R12 q11 q12 za zc ra rc ba bc W2 (hHeld2) (hB11') (hL11) (hBn) (hLn) ((by omega)) (hVM') (hS11a) (hSna) (hS11b) (hSnb)
  case ks2_11_12_R12 =>
    intro q11 q12 za zc ra rc ba bc WZ hHeld hB11 hL11 hB12 hL12 hN11_12 hVM hS11a hS12a hS11b hS12b
    refine wpAnyH_ready (rs := [13]) (by kernel_rfl) (by simp) ?_
    refine AllReadyH.cons (o := { dst := none, op := Op.store 36 (Operand.tmp 25) (Operand.tmp 112), type := 0, pos := _, after := _, guard := none }) rfl (fun K hK => ?_) AllReadyH.nil
    obtain ⟨W3, hQ⟩ := put_row (ty := 36) hB11 (x := [.int .i64 i, .int .i64 fo, .int .i64 q, .slice za un zc, .slice ra 1 rc]) (rfl) (sizeVw) (view_one _ _ _ _ _ _ _ _ _)
    have hHeld2 := below_grown hHeld hQ.grown hHeld.size hL11
    rw [if_pos (by rfl)]
    refine wp_store_mid 36 _ _ rfl q11 0 ([.int .i64 i, .int .i64 fo, .int .i64 q, .slice za un zc, .slice ra 1 rc] : List Value).toArray (by rfl) (by rfl) hQ.there hQ.info (by simpa using hQ.one) ?_
    generalize hWq : World.setCells _ _ _ _ = Wa
    obtain rfl : W3 = Wa := by rw [← hWq]; exact hQ.eq
    clear hWq
    refine hK.out _ _ hHeld2 (fun _ => ?_)
    clear hK K
    try simp only [Act.put]
    exact Ks3_11_12_R12 q11 q12 za zc ra rc ba bc W3 (hHeld2) (hQ.blk) (hL11) (hB12.grown hQ.grown (fun e => by injection e with e; exact hN11_12 e.symm)) (hL12) (hN11_12) (hVM.grown hQ.grown hS11a hS11b) (hS11a) (hS12a) (hS11b) (hS12b)
  case ks3_11_12_R12 =>
    intro q11 q12 za zc ra rc ba bc WZ hHeld hB11 hL11 hB12 hL12 hN11_12 hVM hS11a hS12a hS11b hS12b
    refine wpAnyH_ready (rs := [14]) (by kernel_rfl) (by simp) ?_
    refine AllReadyH.cons (o := { dst := none, op := Op.store 48 (Operand.tmp 26) (Operand.tmp 113), type := 0, pos := _, after := _, guard := none }) rfl (fun K hK => ?_) AllReadyH.nil
    obtain ⟨W3, hQ⟩ := put_row (ty := 48) hB12 (x := forkC zeroF ba 0 bc) (by rw [forkC_len okF0]; rfl) (by rw [forkC_len okF0]; exact sizeF) (forkC_one okF0 _ _ _)
    have hHeld2 := below_grown hHeld hQ.grown hHeld.size hL12
    rw [if_pos (by rfl)]
    refine wp_store_mid 48 _ _ rfl q12 0 (forkC zeroF ba 0 bc : List Value).toArray (by rfl) (by rfl) hQ.there hQ.info (by simpa using hQ.one) ?_
    generalize hWq : World.setCells _ _ _ _ = Wa
    obtain rfl : W3 = Wa := by rw [← hWq]; exact hQ.eq
    clear hWq
    refine hK.out _ _ hHeld2 (fun _ => ?_)
    clear hK K
    try simp only [Act.put]
    refine wpAnyH_take (i := 15) (oi := { dst := some 27, op := Op.assign (Operand.tmp 114), type := 39, pos := _, after := _, guard := none }) (v := ?_) rfl (by kernel_rfl) (by kernel_rfl) (by kernel_rfl) (fun _ _ _ h => h) (Or.inl ⟨by rfl, ?_⟩) hHeld2 ?_
    rotate_left
    · intro wz hSw
      go_simp
      all_goals (with_reducible rfl)
    try simp only [Act.put, List.setIfInBounds_toArray, List.set_cons_zero, List.set_cons_succ]
    refine wpAnyH_done (by kernel_rfl) ?_ _
    exact KfinR12 q11 q12 za zc ra rc ba bc W3 (hHeld2) (hB11.grown hQ.grown (fun e => by injection e with e; exact hN11_12 e)) (hL11) (hQ.blk) (hL12) (hN11_12) (hVM.grown hQ.grown hS12a hS12b) (hS11a) (hS12a) (hS11b) (hS12b)
  case kfinR12 =>
  intro g25 g26 za zc ra rc ba bc w11 hst hb25 _ hb26 _ _ hvm _ _ _ _
  replace hBs := Lib.hid (hBs.out.below hst hBs.out.lt)
  replace hEl := Lib.hid (hEl.out.below hst)
  replace hEm := Lib.hid (hEm.out.below hst)
  replace hBA := Lib.hid (hBA.out.below hst hBA.out.lt)
  replace hBZ := Lib.hid (hBZ.out.below hst hBZ.out.lt)
  replace hBV := Lib.hid (hBV.out.below hst hBV.out.lt)
  replace hMV := Lib.hid (hMV.out.below hst)
  replace hbw := Lib.hid (hbw.out.trans (hst.mono hbw.out.size))
  clear hst
  have hBW := Lib.hid hb25
  have hMW := Lib.hid hvm
  clear hb25 hb26 hvm
  have hcA := Lib.hid (fun W hT h1 h2 => compare_any (⟨i, fo, q, P, [hA]⟩ : Go.Vw.V) xa tn xc ya 1 yc (⟨i, fo, q, Q, [hZ]⟩ : Go.Vw.V) za un zc ra 1 rc W hT h1 h2)
  have hcB := Lib.hid (fun W hT h1 h2 => compare_any (⟨i, fo, q, Q, [hZ]⟩ : Go.Vw.V) za un zc ra 1 rc (⟨i, fo, q, P, [hA]⟩ : Go.Vw.V) xa tn xc ya 1 yc W hT h1 h2)
  have hac := Lib.hid (fun W hT h1 h2 => accept_any (⟨i, fo, q, P, [hA]⟩ : Go.Vw.V) xa tn xc ya 1 yc a15 un c15 em hZ okZ W hT h1 h2 (by decide))
  have e1 := Lib.hid (Go.Vw.cmp_two h1d'.out h2d'.out sA'.out sZ'.out)
  have e2 := Lib.hid (Go.Vw.cmp_two h1d'.out h2d'.out sZ'.out sA'.out)
  have e3 := Lib.hid (Go.Vw.acc_two h1d'.out h2d'.out sA'.out sZ'.out hQQ.out henm.out)
  have p1 := Lib.hid (Go.Vw.cmp_proofs (a := (⟨i, fo, q, P, [hA]⟩ : Go.Vw.V)) (b := (⟨i, fo, q, Q, [hZ]⟩ : Go.Vw.V)))
  have p2 := Lib.hid (Go.Vw.cmp_proofs (a := (⟨i, fo, q, Q, [hZ]⟩ : Go.Vw.V)) (b := (⟨i, fo, q, P, [hA]⟩ : Go.Vw.V)))
  have p3 := Lib.hid (Go.Vw.acc_proofs (v := (⟨i, fo, q, P, [hA]⟩ : Go.Vw.V)) (l := em) (h := hZ)).1
  rw [Go.Vw.differ_symm Q P] at e2
  rw [hdf.out] at e1 e2 e3
  obtain ⟨C1, hC1⟩ : ∃ C, Hid (cmpV (⟨i, fo, q, P, [hA]⟩ : Go.Vw.V) (⟨i, fo, q, Q, [hZ]⟩ : Go.Vw.V) = C) := ⟨_, rfl⟩
  obtain ⟨C2, hC2⟩ : ∃ C, Hid (cmpV (⟨i, fo, q, Q, [hZ]⟩ : Go.Vw.V) (⟨i, fo, q, P, [hA]⟩ : Go.Vw.V) = C) := ⟨_, rfl⟩
  obtain ⟨C3, hC3⟩ : ∃ C, Hid (accV (⟨i, fo, q, P, [hA]⟩ : Go.Vw.V) em hZ = C) := ⟨_, rfl⟩
  rw [hC1.out] at hcA e1 p1
  rw [hC2.out] at hcB e2 p2
  rw [hC3.out] at hac e3 p3
  clear hC1 hC2 hC3 hdf
  generalize (!b) = d at *
  obtain ⟨f1, x1⟩ := C1
  obtain ⟨f2, x2⟩ := C2
  obtain ⟨v3, f3, x3⟩ := C3
  have e1' := e1.out
  have e2' := e2.out
  have e3' := e3.out
  simp only [] at e1' e2' e3'
  subst x1 x2 x3
  clear e1 e2 e3
  simp only [] at hcA hcB hac p1 p2 p3
  have a0 := hBV.out.at_ (i := 0) rfl
  have a1 := hBV.out.at_ (i := 1) rfl
  have a2 := hBV.out.at_ (i := 2) rfl
  have a3 := hBV.out.at_ (i := 3) rfl
  have a4 := hBV.out.at_ (i := 4) rfl
  have b0 := hBW.out.at_ (i := 0) rfl
  have b1 := hBW.out.at_ (i := 1) rfl
  have b2 := hBW.out.at_ (i := 2) rfl
  have b3 := hBW.out.at_ (i := 3) rfl
  have b4 := hBW.out.at_ (i := 4) rfl
  go_wp2_with fail
  refine (hcA.out _ (HT'.out.below hbw.out) hMV.out hMW.out).mono ?_
  rintro e w12 ⟨ua2, un2, uc2, rfl, oku0, hd0, u63, hst⟩
  simp only [] at oku0 hd0
  have oku := Lib.hid oku0
  have bu := Lib.hid u63
  clear hcA oku0 u63 a0 a1 a2 a3 a4 b0 b1 b2 b3 b4
  replace hBs := Lib.hid (hBs.out.below hst hBs.out.lt)
  replace hEl := Lib.hid (hEl.out.below hst)
  replace hEm := Lib.hid (hEm.out.below hst)
  replace hBA := Lib.hid (hBA.out.below hst hBA.out.lt)
  replace hBZ := Lib.hid (hBZ.out.below hst hBZ.out.lt)
  replace hBV := Lib.hid (hBV.out.below hst hBV.out.lt)
  replace hMV := Lib.hid (hMV.out.below hst)
  replace hBW := Lib.hid (hBW.out.below hst hBW.out.lt)
  replace hMW := Lib.hid (hMW.out.below hst)
  replace hbw := Lib.hid (hbw.out.trans (hst.mono hbw.out.size))
  clear hst
  have hDg1 := Lib.hid hd0
  clear hd0
  obtain ⟨v12, hP⟩ : ∃ V, Hid (PutR 48 (w12.alloc (.cells (zrF : List Value).toArray 48)) V w12.heap.size 48 (forkC f1 ua2 un2 uc2)) := put_row (Blk.new w12 48 (zrF)) (by rw [forkC_len oku.out]; rfl) (by rw [forkC_len oku.out]; exact sizeF) (forkC_one oku.out _ _ _)
  have hst := below_grown ((Below.refl _ w12).alloc (Nat.le_refl _) _) hP.out.grown (by simp) (Nat.le_refl _)
  replace hBs := Lib.hid (hBs.out.below hst hBs.out.lt)
  replace hEl := Lib.hid (hEl.out.below hst)
  replace hEm := Lib.hid (hEm.out.below hst)
  replace hBA := Lib.hid (hBA.out.below hst hBA.out.lt)
  replace hBZ := Lib.hid (hBZ.out.below hst hBZ.out.lt)
  replace hBV := Lib.hid (hBV.out.below hst hBV.out.lt)
  replace hMV := Lib.hid (hMV.out.below hst)
  replace hBW := Lib.hid (hBW.out.below hst hBW.out.lt)
  replace hMW := Lib.hid (hMW.out.below hst)
  replace hDg1 := Lib.hid (hDg1.out.below hst)
  replace hbw := Lib.hid (hbw.out.trans (hst.mono hbw.out.size))
  clear hst
  have hBg1 := Lib.hid hP.out.blk
  have a0 := hBV.out.at_ (i := 0) rfl
  have a1 := hBV.out.at_ (i := 1) rfl
  have a2 := hBV.out.at_ (i := 2) rfl
  have a3 := hBV.out.at_ (i := 3) rfl
  have a4 := hBV.out.at_ (i := 4) rfl
  have b0 := hBW.out.at_ (i := 0) rfl
  have b1 := hBW.out.at_ (i := 1) rfl
  have b2 := hBW.out.at_ (i := 2) rfl
  have b3 := hBW.out.at_ (i := 3) rfl
  have b4 := hBW.out.at_ (i := 4) rfl
  go_wp2_with (first
    | (refine wpList_store_mid (by rfl) 48 (.tmp 28) (.tmp 133) (by rfl) w12.heap.size 0 ((forkC f1 ua2 un2 uc2)).toArray (by rfl) (by rfl) hP.out.there hP.out.info (by simpa using hP.out.one) ?_
       generalize hWq : World.setCells _ _ _ _ = Wa
       obtain rfl : v12 = Wa := by rw [← hWq]; exact hP.out.eq
       clear hWq))
  clear hP
  refine (hcB.out _ (HT'.out.below hbw.out) hMW.out hMV.out).mono ?_
  rintro e w13 ⟨sa, sn, sc, rfl, oks0, hd0, s63, hst⟩
  simp only [] at oks0 hd0
  have oks := Lib.hid oks0
  have bs := Lib.hid s63
  clear hcB oks0 s63 a0 a1 a2 a3 a4 b0 b1 b2 b3 b4
  replace hBs := Lib.hid (hBs.out.below hst hBs.out.lt)
  replace hEl := Lib.hid (hEl.out.below hst)
  replace hEm := Lib.hid (hEm.out.below hst)
  replace hBA := Lib.hid (hBA.out.below hst hBA.out.lt)
  replace hBZ := Lib.hid (hBZ.out.below hst hBZ.out.lt)
  replace hBV := Lib.hid (hBV.out.below hst hBV.out.lt)
  replace hMV := Lib.hid (hMV.out.below hst)
  replace hBW := Lib.hid (hBW.out.below hst hBW.out.lt)
  replace hMW := Lib.hid (hMW.out.below hst)
  replace hDg1 := Lib.hid (hDg1.out.below hst)
  replace hBg1 := Lib.hid (hBg1.out.below hst hBg1.out.lt)
  replace hbw := Lib.hid (hbw.out.trans (hst.mono hbw.out.size))
  clear hst
  have hDg2 := Lib.hid hd0
  clear hd0
  obtain ⟨v13, hP⟩ : ∃ V, Hid (PutR 48 (w13.alloc (.cells (zrF : List Value).toArray 48)) V w13.heap.size 48 (forkC f2 sa sn sc)) := put_row (Blk.new w13 48 (zrF)) (by rw [forkC_len oks.out]; rfl) (by rw [forkC_len oks.out]; exact sizeF) (forkC_one oks.out _ _ _)
  have hst := below_grown ((Below.refl _ w13).alloc (Nat.le_refl _) _) hP.out.grown (by simp) (Nat.le_refl _)
  replace hBs := Lib.hid (hBs.out.below hst hBs.out.lt)
  replace hEl := Lib.hid (hEl.out.below hst)
  replace hEm := Lib.hid (hEm.out.below hst)
  replace hBA := Lib.hid (hBA.out.below hst hBA.out.lt)
  replace hBZ := Lib.hid (hBZ.out.below hst hBZ.out.lt)
  replace hBV := Lib.hid (hBV.out.below hst hBV.out.lt)
  replace hMV := Lib.hid (hMV.out.below hst)
  replace hBW := Lib.hid (hBW.out.below hst hBW.out.lt)
  replace hMW := Lib.hid (hMW.out.below hst)
  replace hDg1 := Lib.hid (hDg1.out.below hst)
  replace hBg1 := Lib.hid (hBg1.out.below hst hBg1.out.lt)
  replace hDg2 := Lib.hid (hDg2.out.below hst)
  replace hbw := Lib.hid (hbw.out.trans (hst.mono hbw.out.size))
  clear hst
  have hBg2 := Lib.hid hP.out.blk
  have a0 := hBV.out.at_ (i := 0) rfl
  have a1 := hBV.out.at_ (i := 1) rfl
  have a2 := hBV.out.at_ (i := 2) rfl
  have a3 := hBV.out.at_ (i := 3) rfl
  have a4 := hBV.out.at_ (i := 4) rfl
  have hrz := Lib.hid hBZ.out.range
  have hiz := infoHd okZ
  go_wp2_with (first
    | (refine wpList_store_mid (by rfl) 48 (.tmp 30) (.tmp 139) (by rfl) w13.heap.size 0 ((forkC f2 sa sn sc)).toArray (by rfl) (by rfl) hP.out.there hP.out.info (by simpa using hP.out.one) ?_
       generalize hWq : World.setCells _ _ _ _ = Wa
       obtain rfl : v13 = Wa := by rw [← hWq]; exact hP.out.eq
       clear hWq)
    | (refine wpList_load_g (by rfl) 46 _ (by rfl) w9.heap.size 0 (by rfl) (hdC hZ) _ hrz.out Tryd.underlying46 (by rfl) hiz.out ?_))
  clear hP hrz
  refine (hac.out _ (HT'.out.below hbw.out) hMV.out hEm.out).mono ?_
  rintro e w14 ⟨ka, kn, kc, la, ln, lc, ta3, tn3, tc3, rfl, _, okt0, hd0, t63, hst⟩
  simp only [] at okt0 hd0
  have okt := Lib.hid okt0
  have bt := Lib.hid t63
  clear hac okt0 t63 a0 a1 a2 a3 a4
  replace hBs := Lib.hid (hBs.out.below hst hBs.out.lt)
  replace hEl := Lib.hid (hEl.out.below hst)
  replace hEm := Lib.hid (hEm.out.below hst)
  replace hBA := Lib.hid (hBA.out.below hst hBA.out.lt)
  replace hBZ := Lib.hid (hBZ.out.below hst hBZ.out.lt)
  replace hBV := Lib.hid (hBV.out.below hst hBV.out.lt)
  replace hMV := Lib.hid (hMV.out.below hst)
  replace hBW := Lib.hid (hBW.out.below hst hBW.out.lt)
  replace hMW := Lib.hid (hMW.out.below hst)
  replace hDg1 := Lib.hid (hDg1.out.below hst)
  replace hBg1 := Lib.hid (hBg1.out.below hst hBg1.out.lt)
  replace hDg2 := Lib.hid (hDg2.out.below hst)
  replace hBg2 := Lib.hid (hBg2.out.below hst hBg2.out.lt)
  replace hbw := Lib.hid (hbw.out.trans (hst.mono hbw.out.size))
  clear hst
  have hDf3 := Lib.hid hd0
  clear hd0
  have al : Below w14.heap.size w14 ((w14.alloc (.cells (zrV : List Value).toArray 36)).alloc (.cells (zrF : List Value).toArray 48)) := ((Below.refl _ w14).alloc (Nat.le_refl _) _).alloc (by simp) _
  have bV0 := (Blk.new w14 36 zrV).alloc (.cells (zrF : List Value).toArray 48)
  have bF0 := Blk.new (w14.alloc (.cells (zrV : List Value).toArray 36)) 48 zrF
  rw [World.size_alloc] at bF0
  obtain ⟨v14a, hPv⟩ : ∃ V, Hid (PutR 36 ((w14.alloc (.cells (zrV : List Value).toArray 36)).alloc (.cells (zrF : List Value).toArray 48)) V w14.heap.size 36 ([.int .i64 v3.st, .int .i64 v3.fo, .int .i64 v3.pub, .slice ka kn kc, .slice la ln lc])) := put_row bV0 rfl sizeVw (view_one _ _ _ _ _ _ _ _ _)
  have bF1 := bF0.grown hPv.out.grown (fun e => by injection e with e; omega)
  obtain ⟨v14, hPf⟩ : ∃ V, Hid (PutR 48 v14a V (w14.heap.size + 1) 48 (forkC f3 ta3 tn3 tc3)) := put_row bF1 (by rw [forkC_len okt.out]; rfl) (by rw [forkC_len okt.out]; exact sizeF) (forkC_one okt.out _ _ _)
  have hst := below_grown (below_grown al hPv.out.grown al.size (Nat.le_refl _)) hPf.out.grown (Nat.le_trans al.size hPv.out.grown.size) (Nat.le_succ _)
  have hBf3 := Lib.hid hPf.out.blk
  clear al bV0 bF0 bF1
  replace hBs := Lib.hid (hBs.out.below hst hBs.out.lt)
  replace hEl := Lib.hid (hEl.out.below hst)
  replace hEm := Lib.hid (hEm.out.below hst)
  replace hBA := Lib.hid (hBA.out.below hst hBA.out.lt)
  replace hBZ := Lib.hid (hBZ.out.below hst hBZ.out.lt)
  replace hBV := Lib.hid (hBV.out.below hst hBV.out.lt)
  replace hMV := Lib.hid (hMV.out.below hst)
  replace hBW := Lib.hid (hBW.out.below hst hBW.out.lt)
  replace hMW := Lib.hid (hMW.out.below hst)
  replace hDg1 := Lib.hid (hDg1.out.below hst)
  replace hBg1 := Lib.hid (hBg1.out.below hst hBg1.out.lt)
  replace hDg2 := Lib.hid (hDg2.out.below hst)
  replace hBg2 := Lib.hid (hBg2.out.below hst hBg2.out.lt)
  replace hDf3 := Lib.hid (hDf3.out.below hst)
  replace hbw := Lib.hid (hbw.out.trans (hst.mono hbw.out.size))
  clear hst
  cases d with
  | false =>
    simp only [Bool.false_eq_true, if_false]
    have hf := Lib.hid (hfin.out _ hbw.out)
    go_upto_region 18 with (first
      | (refine wpList_store_mid (by rfl) 36 (.tmp 32) (.tmp 146) (by rfl) w14.heap.size 0 ([.int .i64 v3.st, .int .i64 v3.fo, .int .i64 v3.pub, .slice ka kn kc, .slice la ln lc]).toArray (by rfl) (by rfl) hPv.out.there hPv.out.info (by simpa using hPv.out.one) ?_
         generalize hWq : World.setCells _ _ _ _ = Wa
         obtain rfl : v14a = Wa := by rw [← hWq]; exact hPv.out.eq
         clear hWq)
      | (refine wpList_store_mid (by rfl) 48 (.tmp 33) (.tmp 147) (by rfl) (w14.heap.size + 1) 0 ((forkC f3 ta3 tn3 tc3)).toArray (by rfl) (by rfl) hPf.out.there hPf.out.info (by simpa using hPf.out.one) ?_
         generalize hWq : World.setCells _ _ _ _ = Wa
         obtain rfl : v14 = Wa := by rw [← hWq]; exact hPf.out.eq
         clear hWq))
    go_wp2_with fail
    exact hf.out
  | true =>
    simp only [if_true] at p3 ⊢
    have q1 := Lib.hid (p1.out (by trivial))
    have q2 := Lib.hid (p2.out (by trivial))
    have q3 := Lib.hid (p3.out (by trivial)).1
    clear p1 p2 p3
    go_upto_region 18 with (first
      | (refine wpList_store_mid (by rfl) 36 (.tmp 32) (.tmp 146) (by rfl) w14.heap.size 0 ([.int .i64 v3.st, .int .i64 v3.fo, .int .i64 v3.pub, .slice ka kn kc, .slice la ln lc]).toArray (by rfl) (by rfl) hPv.out.there hPv.out.info (by simpa using hPv.out.one) ?_
         generalize hWq : World.setCells _ _ _ _ = Wa
         obtain rfl : v14a = Wa := by rw [← hWq]; exact hPv.out.eq
         clear hWq)
      | (refine wpList_store_mid (by rfl) 48 (.tmp 33) (.tmp 147) (by rfl) (w14.heap.size + 1) 0 ((forkC f3 ta3 tn3 tc3)).toArray (by rfl) (by rfl) hPf.out.there hPf.out.info (by simpa using hPf.out.one) ?_
         generalize hWq : World.setCells _ _ _ _ = Wa
         obtain rfl : v14 = Wa := by rw [← hWq]; exact hPf.out.eq
         clear hWq))
    clear hPv hPf
    have hfr := Lib.hid hBg1.out.range
    have hfi := infoF oku.out ua2 un2 uc2
    go_wp2_with (first
      | (refine wpList_load_g (by rfl) 48 _ (by rfl) w12.heap.size 0 (by rfl) (forkC f1 ua2 un2 uc2) _ hfr.out Tryd.underlying48 (by rfl) hfi.out ?_))
    have hq := prove_any q hpq64.out f1 oku.out ua2 un2 uc2 _ (HT'.out.below hbw.out) hDg1.out bu.out
    rw [q1.out] at hq
    refine hq.mono ?_
    rintro e w15 ⟨rfl, hst⟩
    clear hq hfr hfi
    replace hBs := Lib.hid (hBs.out.below hst hBs.out.lt)
    replace hEl := Lib.hid (hEl.out.below hst)
    replace hEm := Lib.hid (hEm.out.below hst)
    replace hBA := Lib.hid (hBA.out.below hst hBA.out.lt)
    replace hBZ := Lib.hid (hBZ.out.below hst hBZ.out.lt)
    replace hBV := Lib.hid (hBV.out.below hst hBV.out.lt)
    replace hMV := Lib.hid (hMV.out.below hst)
    replace hBW := Lib.hid (hBW.out.below hst hBW.out.lt)
    replace hMW := Lib.hid (hMW.out.below hst)
    replace hDg1 := Lib.hid (hDg1.out.below hst)
    replace hBg1 := Lib.hid (hBg1.out.below hst hBg1.out.lt)
    replace hDg2 := Lib.hid (hDg2.out.below hst)
    replace hBg2 := Lib.hid (hBg2.out.below hst hBg2.out.lt)
    replace hDf3 := Lib.hid (hDf3.out.below hst)
    replace hBf3 := Lib.hid (hBf3.out.below hst hBf3.out.lt)
    replace hbw := Lib.hid (hbw.out.trans (hst.mono hbw.out.size))
    clear hst
    have hfr := Lib.hid hBg2.out.range
    have hfi := infoF oks.out sa sn sc
    go_wp2_with (first
      | (refine wpList_load_g (by rfl) 48 _ (by rfl) w13.heap.size 0 (by rfl) (forkC f2 sa sn sc) _ hfr.out Tryd.underlying48 (by rfl) hfi.out ?_))
    have hq := prove_any q hpq64.out f2 oks.out sa sn sc _ (HT'.out.below hbw.out) hDg2.out bs.out
    rw [q2.out] at hq
    refine hq.mono ?_
    rintro e w16 ⟨rfl, hst⟩
    clear hq hfr hfi
    replace hBs := Lib.hid (hBs.out.below hst hBs.out.lt)
    replace hEl := Lib.hid (hEl.out.below hst)
    replace hEm := Lib.hid (hEm.out.below hst)
    replace hBA := Lib.hid (hBA.out.below hst hBA.out.lt)
    replace hBZ := Lib.hid (hBZ.out.below hst hBZ.out.lt)
    replace hBV := Lib.hid (hBV.out.below hst hBV.out.lt)
    replace hMV := Lib.hid (hMV.out.below hst)
    replace hBW := Lib.hid (hBW.out.below hst hBW.out.lt)
    replace hMW := Lib.hid (hMW.out.below hst)
    replace hDg1 := Lib.hid (hDg1.out.below hst)
    replace hBg1 := Lib.hid (hBg1.out.below hst hBg1.out.lt)
    replace hDg2 := Lib.hid (hDg2.out.below hst)
    replace hBg2 := Lib.hid (hBg2.out.below hst hBg2.out.lt)
    replace hDf3 := Lib.hid (hDf3.out.below hst)
    replace hBf3 := Lib.hid (hBf3.out.below hst hBf3.out.lt)
    replace hbw := Lib.hid (hbw.out.trans (hst.mono hbw.out.size))
    clear hst
    have hfr := Lib.hid hBf3.out.range
    have hfi := infoF okt.out ta3 tn3 tc3
    go_wp2_with (first
      | (refine wpList_load_g (by rfl) 48 _ (by rfl) (w14.heap.size + 1) 0 (by rfl) (forkC f3 ta3 tn3 tc3) _ hfr.out Tryd.underlying48 (by rfl) hfi.out ?_))
    have hq := prove_any q hpq64.out f3 okt.out ta3 tn3 tc3 _ (HT'.out.below hbw.out) hDf3.out bt.out
    rw [q3.out] at hq
    refine hq.mono ?_
    rintro e w17 ⟨rfl, hst⟩
    clear hq hfr hfi
    replace hBs := Lib.hid (hBs.out.below hst hBs.out.lt)
    replace hEl := Lib.hid (hEl.out.below hst)
    replace hEm := Lib.hid (hEm.out.below hst)
    replace hBA := Lib.hid (hBA.out.below hst hBA.out.lt)
    replace hBZ := Lib.hid (hBZ.out.below hst hBZ.out.lt)
    replace hBV := Lib.hid (hBV.out.below hst hBV.out.lt)
    replace hMV := Lib.hid (hMV.out.below hst)
    replace hBW := Lib.hid (hBW.out.below hst hBW.out.lt)
    replace hMW := Lib.hid (hMW.out.below hst)
    replace hDg1 := Lib.hid (hDg1.out.below hst)
    replace hBg1 := Lib.hid (hBg1.out.below hst hBg1.out.lt)
    replace hDg2 := Lib.hid (hDg2.out.below hst)
    replace hBg2 := Lib.hid (hBg2.out.below hst hBg2.out.lt)
    replace hDf3 := Lib.hid (hDf3.out.below hst)
    replace hBf3 := Lib.hid (hBf3.out.below hst hBf3.out.lt)
    replace hbw := Lib.hid (hbw.out.trans (hst.mono hbw.out.size))
    clear hst
    have hf := Lib.hid (hfin.out _ hbw.out)
    go_wp2_with fail
    exact hf.out
end Go.Proofs.YtiionehcmoginaaDoor
namespace Go.Proofs.YtiionehcmoginaaDoor.lawCaught
open Go.ChangeShapes Go.WideShapes Go.ChangeAt Go.RowKit Go.Mem
open Go.Proofs.YtiionehcmoginaaDoor

set_option maxRecDepth 100000 in
theorem lifted (os : Os) (started : os.Started) (H : Type) (enc : TypeId × Value → H) :
    ReturnsInHanded {} Tryd.checked os 4 .any (fun w args => (Rows.viewsCaughtSpec.pre enc Tryd.prog Tryd.f4 [] false w args ∧ laidMetH Tryd.prog laid2 w) ∧ sizedMet enc Tryd.prog Tryd.f4 (OpenSpec.ofChange Rows.viewsCaughtSpec) false w args)
      (Rows.viewsCaughtSpec.post enc Tryd.prog Tryd.f4 false true false false) := by
  refine returnsInHanded_of_change_and (C := Tryd.checked) (X := fun w _ => laidMetH Tryd.prog laid2 w) (fun _ _ _ hh h => h.of_heap hh) own started (by kernel_rfl) Tryd.func4
    (ChangeSpec.witness_shaped (enc := enc) (C := Tryd.checked) (os := os) (X := fun w _ => laidMetH Tryd.prog laid2 w) false (World.doorLaid Tryd.prog 400 os) #[.int .i64 0, .int .i64 0, .int .i64 0, .slice none 0 0, .slice none 0 0] 8 rfl (World.shaped_of_RefB (by kernel_rfl) (by kernel_rfl)) (by kernel_rfl) (by kernel_rfl) (by kernel_rfl) (door_met os _)) ?_
  intro W base args ds gs before hval0 hW _ hwt hL _
  have hval : ∀ (j : Nat) t v, Tryd.f4.params[j]? = some t → args[j]? = some v → Value.okWide Tryd.prog W .any base t v := hval0
  have hW' := hW
  obtain ⟨p, q, hA0, hV, rfl, hfz, hnd⟩ := hW
  have hA : DataW.TrodAll enc Tryd.prog W 0 (fun _ => true) true Tryd.f4.params.toList args.toList ds p := hA0
  rw [Tryd.params4] at hA hval
  obtain ⟨v0, vs0, d0, ds0, p0, q0, hargs, rfl, rfl, h0, r0⟩ := trodAll_cons hA
  obtain ⟨v1, vs1, d1, ds1, p1, q1, rfl, rfl, rfl, h1, r1⟩ := trodAll_cons r0
  obtain ⟨v2, vs2, d2, ds2, p2, q2, rfl, rfl, rfl, h2, r2⟩ := trodAll_cons r1
  obtain ⟨v3, vs3, d3, ds3, p3, q3, rfl, rfl, rfl, h3, r3⟩ := trodAll_cons r2
  obtain ⟨v4, vs4, d4, ds4, p4, q4, rfl, rfl, rfl, h4, r4⟩ := trodAll_cons r3
  obtain ⟨rfl, rfl, rfl⟩ := trodAll_nil r4
  obtain rfl : args = #[v0, v1, v2, v3, v4] := by cases args; simp_all
  obtain ⟨rfl, rfl⟩ := trodVars_none hV
  have lt0 : ∀ x ∈ p0, x.block < W.heap.size := by obtain ⟨m, hm⟩ := h0; exact DataW.trod_lt m _ _ _ hm
  have lt1 : ∀ x ∈ p1, x.block < W.heap.size := by obtain ⟨m, hm⟩ := h1; exact DataW.trod_lt m _ _ _ hm
  have lt2 : ∀ x ∈ p2, x.block < W.heap.size := by obtain ⟨m, hm⟩ := h2; exact DataW.trod_lt m _ _ _ hm
  have lt3 : ∀ x ∈ p3, x.block < W.heap.size := by obtain ⟨m, hm⟩ := h3; exact DataW.trod_lt m _ _ _ hm
  have lt4 : ∀ x ∈ p4, x.block < W.heap.size := by obtain ⟨m, hm⟩ := h4; exact DataW.trod_lt m _ _ _ hm
  have k0' := h0
  have k1' := h1
  have k2' := h2
  have k3' := h3
  have k4' := h4
  rw [Tryd.params4] at hwt
  simp only [List.cons_append, List.nil_append, DataW.weightsEach, List.all_append, Bool.and_eq_true] at hwt
  obtain ⟨x0, rfl⟩ := okWide_int Tryd.underlying3 (hval 0 3 v0 rfl rfl)
  obtain ⟨m0, hm0⟩ := h0
  obtain ⟨x0', e0, i0⟩ := open_int1 (cs := [.int .i64 x0]) (by simpa [Value.cells] using hm0)
  obtain rfl : x0 = x0' := by simpa using e0
  clear hm0 e0
  obtain ⟨x1, rfl⟩ := okWide_int Tryd.underlying3 (hval 1 3 v1 rfl rfl)
  obtain ⟨m1, hm1⟩ := h1
  obtain ⟨x1', e1, i1⟩ := open_int1 (cs := [.int .i64 x1]) (by simpa [Value.cells] using hm1)
  obtain rfl : x1 = x1' := by simpa using e1
  clear hm1 e1
  obtain ⟨x2, rfl⟩ := okWide_int Tryd.underlying3 (hval 2 3 v2 rfl rfl)
  obtain ⟨m2, hm2⟩ := h2
  obtain ⟨x2', e2, i2⟩ := open_int1 (cs := [.int .i64 x2]) (by simpa [Value.cells] using hm2)
  obtain rfl : x2 = x2' := by simpa using e2
  clear hm2 e2
  obtain ⟨a3, n3, c3, rfl⟩ := okWide_slice Tryd.underlying22 (hval 3 22 v3 rfl rfl)
  obtain ⟨m3, hm3⟩ := h3
  obtain ⟨_, _, _, l3, e3, S3, B3'⟩ := open_strs (cs := [.slice a3 n3 c3]) (by simpa [Value.cells] using hm3)
  simp only [List.cons.injEq, Value.slice.injEq, and_true] at e3
  obtain ⟨rfl, rfl, rfl⟩ := e3
  have B3 := B3' (hwt.2.2.2.1)
  clear hm3
  obtain ⟨a4, n4, c4, rfl⟩ := okWide_slice Tryd.underlying22 (hval 4 22 v4 rfl rfl)
  obtain ⟨m4, hm4⟩ := h4
  obtain ⟨_, _, _, l4, e4, S4, B4'⟩ := open_strs (cs := [.slice a4 n4 c4]) (by simpa [Value.cells] using hm4)
  simp only [List.cons.injEq, Value.slice.injEq, and_true] at e4
  obtain ⟨rfl, rfl, rfl⟩ := e4
  have B4 := B4' (hwt.2.2.2.2.1)
  clear hm4
  have hT := tabs_of_laid hL
  clear hA0 hval0
  refine (caught_walk x0 i0 x1 i1 x2 i2 a3 n3 c3 l3 a4 n4 c4 l4 W hT S3 S4 B3 B4).mono fun e W' ⟨he, bel⟩ => ?_
  subst he
  exact ⟨_, rfl, _, _, _, [], _, [], hW', trodAll_mk1 (shut_bool Tryd.underlying4 _),
    (trodAll_cons_mk (Below.trod laidOut (by kernel_rfl) (of_decide_eq_true (by kernel_rfl)) k0' bel lt0) (trodAll_cons_mk (Below.trod laidOut (by kernel_rfl) (of_decide_eq_true (by kernel_rfl)) k1' bel lt1) (trodAll_cons_mk (Below.trod laidOut (by kernel_rfl) (of_decide_eq_true (by kernel_rfl)) k2' bel lt2) (trodAll_cons_mk (Below.trod laidOut (by kernel_rfl) (of_decide_eq_true (by kernel_rfl)) k3' bel lt3) (trodAll_cons_mk (Below.trod laidOut (by kernel_rfl) (of_decide_eq_true (by kernel_rfl)) k4' bel lt4) trodAll_mk0))))), rfl, bel.frame _, fun h => by cases h⟩

theorem over : Rows.ViewsCaughtSaid :=
  OpenClaim.holds_of_wide 4 Tryd.f4 rfl rfl rfl rfl rfl rfl rfl ⟨rfl, rfl, rfl, rfl, rfl⟩ rfl rfl rfl rfl rfl (by kernel_rfl) Tryd.func4 (by kernel_rfl)
    (of_decide_eq_true (by kernel_rfl)) (by unfold Func.isWrapper; first | (rw [if_pos (by decide +kernel)]; kernel_rfl) | (rw [if_neg (by decide +kernel)]; exact ⟨rfl, rfl⟩))
    (fun os started H enc _ => lifted os started H enc)

theorem proved : Rows.ViewsCaughtCardSaid :=
  Claim7.holds_tied_plain_at .later [] [.data, .data] true (true, "608cd0720f91ff3ad574156353b6f30fe2f73723675f14731deb4c629b150d9f") false
    over (fun _ h => by cases h) (by kernel_rfl) (fun _ h => by cases h) viewsCaught_row_tie rfl ⟨rfl, rfl⟩ (by kernel_rfl) rfl
    (fun f fn hf hfn => by
      obtain rfl : f = 4 := Option.some.inj ((show Tryd.prog.funcNamed "chartroom/chartroomlaw32.ViewsCaught" = some 4 by kernel_rfl).symm.trans hf) |>.symm
      obtain rfl : fn = Tryd.f4 := (Option.some.inj (Tryd.func4.symm.trans hfn)).symm
      exact ⟨by kernel_rfl, fun j t ht => by
        rw [Tryd.params4] at ht
        have hm : t ∈ [3, 3, 3, 22, 22] := by simpa using Array.mem_of_getElem? ht
        have hall : ([3, 3, 3, 22, 22].all fun u => !Tryd.prog.wantsStandIn u) = true := by kernel_rfl
        exact (show Tryd.prog.wantsStandIn t = false by simpa using List.all_eq_true.1 hall t hm)⟩)
    (by kernel_rfl)
#print axioms proved
end Go.Proofs.YtiionehcmoginaaDoor.lawCaught

