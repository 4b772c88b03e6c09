/- the walk of ViewsHonest -/
import Derived.Test.YtiionehcmoginaaDoorShn
import Derived.Test.YtiionehcmoginaaDoorCards
import Derived.Test.YtiionehcmoginaaDoorTie
import Derived.SevenTiedAt
import Derived.Deep.DeepHandedRow
import Derived.Deep.DeepWitnessRowRef
namespace Go.Proofs.YtiionehcmoginaaDoor
open Go.RowKit Go.Mem Go.Shelf
open Go.Sto (Ent)
open Go.Vw (entT Hd Fk Sg newV zeroF accV cmpV Hon)

theorem mostN_bd (n : Nat) : ∀ (l : List Nat) (m : Nat), m ≤ n → l.foldl (fun m x => max m (x % (n + 1))) m ≤ n
  | [], _m, h => h
  | x :: r, _m, h => mostN_bd n r _ (Nat.max_le.2 ⟨h, Nat.le_of_lt_succ (Nat.mod_lt x (Nat.succ_pos n))⟩)
theorem mostN_le (n : Nat) (l : List Nat) : mostN n l ≤ n := mostN_bd n l 0 (Nat.zero_le _)

set_option maxRecDepth 100000 in
set_option maxHeartbeats 40000000 in
theorem honest_walk (id : Int) (iid : I64 id) (pv : Int) (ipv : I64 pv) (fo : Int) (ifo : I64 fo) (ta : Option Addr) (tn tc : Nat) (l : List ByteArray) (xa : Option Addr) (xn xc : Nat) (A : List Nat) (ya : Option Addr) (yn yc : Nat) (B : List Nat) (w : World) (HT : Tabs w)
    (HS : TxS w ta tn tc l) (HA : BW w xa xn xc A) (HB : BW w ya yn yc B) (hsz : ∀ s ∈ l, s.size ≤ reachBytes) :
    Calls Tryd.prog 3 #[.int .i64 id, .int .i64 pv, .int .i64 fo, .slice ta tn tc, .slice xa xn xc, .slice ya yn yc] w (RetBo true w) := by
  have HS' := Lib.hid HS; have HA' := Lib.hid HA; have HB' := Lib.hid HB; have HT' := Lib.hid HT; have hsz' := Lib.hid hsz
  have hlen := Lib.hid HS.len
  have lA : Hid (A.length = xn) := by
    rcases HA with h | ⟨rfl, rfl, rfl, _⟩
    · exact h.len
    · rfl
  clear HS HA HB HT hsz
  have hsa := Lib.hid (fun W hT => sane32_any W hT)
  have hop := Lib.hid (fun W => open32_any id pv fo ipv W)
  have hsh := Lib.hid (fun W H => short_any ta tn tc l W H hsz'.out)
  obtain ⟨OB, hB⟩ : ∃ B, Hid (OpenB id pv fo = B) := ⟨_, rfl⟩
  obtain ⟨C, hC⟩ : ∃ C, Hid (shortB l = C) := ⟨_, rfl⟩
  rw [hC.out] at hsh
  unfold Open32Post at hop
  rw [hB.out] at hop
  obtain ⟨X, hX⟩ : ∃ X, X = RetBo true w := ⟨_, rfl⟩
  have hfin : Hid (∀ W, Below w.heap.size w W → X (.returned (.bool true)) W) := fun W hb => by rw [hX]; exact ⟨rfl, hb⟩
  rw [← hX]
  clear hX
  go_enter Tryd.func3, Tryd.ntmps3
  go_wp2_with fail
  refine (hsa.out _ HT'.out).mono ?_
  rintro e w1 ⟨rfl, hb1⟩
  have hbw := Lib.hid hb1
  clear hb1 hsa
  go_wp2_with fail
  refine (hop.out _).mono ?_
  rintro e w2 ⟨i, p, q, rfl, hop2, hst⟩
  have hop3 := Lib.hid hop2
  clear hop hop2
  replace hbw := Lib.hid (hbw.out.trans (hst.mono hbw.out.size))
  clear hst
  obtain ⟨v2, hP⟩ : ∃ V, Hid (PutR 27 (w2.alloc (.cells ([.int .i64 0, .int .i64 0, .slice none 0 0] : List Value).toArray 27)) V w2.heap.size 27 ([.int .i64 i, .int .i64 p, .slice none 0 0])) := put_row (Blk.new w2 27 ([.int .i64 0, .int .i64 0, .slice none 0 0])) rfl (sizeS3) (by intro u hu; simp only [List.mem_cons, List.not_mem_nil, or_false] at hu; rcases hu with rfl | rfl | rfl <;> rfl)
  have hst := below_grown ((Below.refl _ w2).alloc (Nat.le_refl _) _) hP.out.grown (by simp) (Nat.le_refl _)
  replace hbw := Lib.hid (hbw.out.trans (hst.mono hbw.out.size))
  clear hst
  have hBs := Lib.hid hP.out.blk
  cases OB with
  | false =>
    have hf := Lib.hid (hfin.out _ hbw.out)
    go_wp2_with (first
      | (refine wpList_store_mid (by rfl) 27 (.tmp 13) (.tmp 34) (by rfl) w2.heap.size 0 ([.int .i64 i, .int .i64 p, .slice none 0 0]).toArray (by rfl) (by rfl) hP.out.there hP.out.info (by simpa using hP.out.one) ?_
         generalize hWq : World.setCells _ _ _ _ = Wa
         obtain rfl : v2 = Wa := by rw [← hWq]; exact hP.out.eq
         clear hWq))
    exact hf.out
  | true =>
  obtain ⟨rfl, rfl, hpq0⟩ := hop3.out (by trivial)
  have hpq := Lib.hid hpq0
  clear hop3 hpq0
  go_wp2_with (first
    | (refine wpList_store_mid (by rfl) 27 (.tmp 13) (.tmp 34) (by rfl) w2.heap.size 0 ([.int .i64 i, .int .i64 p, .slice none 0 0]).toArray (by rfl) (by rfl) hP.out.there hP.out.info (by simpa using hP.out.one) ?_
       generalize hWq : World.setCells _ _ _ _ = Wa
       obtain rfl : v2 = Wa := by rw [← hWq]; exact hP.out.eq
       clear hWq))
  clear hP
  refine (hsh.out _ (HS'.out.below hbw.out)).mono ?_
  rintro e w3 ⟨rfl, hst⟩
  clear hsh
  replace hBs := Lib.hid (hBs.out.below hst hBs.out.lt)
  replace hbw := Lib.hid (hbw.out.trans (hst.mono hbw.out.size))
  clear hst
  cases C with
  | false =>
    have hf := Lib.hid (hfin.out _ hbw.out)
    go_wp2_with fail
    exact hf.out
  | true =>
  by_cases h6a : xn ≤ 6
  case neg =>
    have gz1 : decide ((6 : Int) < (xn : Int)) = true := decide_eq_true (by omega)
    have gz2 : decide (6 < xn) = true := decide_eq_true (by omega)
    have hf := Lib.hid (hfin.out _ hbw.out)
    clear h6a
    go_wp2_with fail
    exact hf.out
  case pos =>
  have ga1 : decide ((6 : Int) < (xn : Int)) = false := decide_eq_false (by omega)
  have ga2 : decide (6 < xn) = false := decide_eq_false (by omega)
  by_cases h6b : yn ≤ 6
  case neg =>
    have gz1 : decide ((6 : Int) < (yn : Int)) = true := decide_eq_true (by omega)
    have gz2 : decide (6 < yn) = true := decide_eq_true (by omega)
    have hf := Lib.hid (hfin.out _ hbw.out)
    clear h6b
    go_wp2_with fail
    exact hf.out
  case pos =>
  have gb1 : decide ((6 : Int) < (yn : Int)) = false := decide_eq_false (by omega)
  have gb2 : decide (6 < yn) = false := decide_eq_false (by omega)
  go_wp2_with fail
  refine (ents_at hC.out _ (HT'.out.below hbw.out) (HS'.out.below hbw.out)).mono ?_
  rintro e w4 ⟨a16, c16, rfl, hE0, hst⟩
  have hE := Lib.hid hE0
  clear hE0 ga1 ga2 gb1 gb2
  replace hBs := Lib.hid (hBs.out.below hst hBs.out.lt)
  replace hbw := Lib.hid (hbw.out.trans (hst.mono hbw.out.size))
  clear hst
  have h8l := (short_iff hC.out).1
  have t8 : tn ≤ 8 := by have := hlen.out; omega
  clear h8l
  have hokl := Lib.hid (okE_ents hC.out)
  have henl := Lib.hid (Go.Vw.ents_ok l)
  obtain ⟨es, hes⟩ : ∃ es, Hid (l.map entT = es) := ⟨_, rfl⟩
  rw [hes.out] at hE hokl henl
  have lel := Lib.hid hE.out.rs.len
  clear hes
  have hPm : Hid (∀ j, (es.take j).map (fun e : Ent => e.dig) = (es.map (fun e : Ent => e.dig)).take j) := fun j => List.map_take
  have hPn : Hid ((es.map (fun e : Ent => e.dig)).length = tn) := by show _ = _; rw [List.length_map]; exact lel.out
  obtain ⟨P, hPP⟩ : ∃ P, Hid (es.map (fun e : Ent => e.dig) = P) := ⟨_, rfl⟩
  rw [hPP.out] at hPm hPn
  have hq' : Hid (pubB 4 p = q) := hpq.out.symm
  have hsA := Lib.hid (fun W hT hE hC => shown_any i p fo q hB.out hq' iid ifo a16 tn c16 es P hPP t8 xa xn xc A (by omega) W hT hE hokl.out henl.out hC)
  have hsB := Lib.hid (fun W hT hE hC => shown_any i p fo q hB.out hq' iid ifo a16 tn c16 es P hPP t8 ya yn yc B (by omega) W hT hE hokl.out henl.out hC)
  clear hpq hq'
  have s0 := hBs.out.at_ (i := 0) rfl
  have s1 := hBs.out.at_ (i := 1) rfl
  have s2 := hBs.out.at_ (i := 2) rfl
  go_wp2_with fail
  refine (hsA.out _ (HT'.out.below hbw.out) hE.out (HA'.out.below hbw.out)).mono ?_
  rintro e w5 ⟨v, va, vn, vc, ua, un, uc, rfl, hvm, hon, hst⟩
  have hHv := Lib.hid hon
  clear hsA hon
  replace hBs := Lib.hid (hBs.out.below hst hBs.out.lt)
  replace hE := Lib.hid (hE.out.below hst)
  replace hbw := Lib.hid (hbw.out.trans (hst.mono hbw.out.size))
  clear hst
  have hMv := Lib.hid hvm
  clear hvm
  obtain ⟨v5, hP⟩ : ∃ V, Hid (PutR 36 (w5.alloc (.cells (zrV : List Value).toArray 36)) V w5.heap.size 36 ([.int .i64 v.st, .int .i64 v.fo, .int .i64 v.pub, .slice va vn vc, .slice ua un uc])) := put_row (Blk.new w5 36 (zrV)) rfl (sizeVw) (view_one _ _ _ _ _ _ _ _ _)
  have hst := below_grown ((Below.refl _ w5).alloc (Nat.le_refl _) _) hP.out.grown (by simp) (Nat.le_refl _)
  replace hBs := Lib.hid (hBs.out.below hst hBs.out.lt)
  replace hE := Lib.hid (hE.out.below hst)
  replace hMv := Lib.hid (hMv.out.below hst)
  replace hbw := Lib.hid (hbw.out.trans (hst.mono hbw.out.size))
  clear hst
  have hBv := Lib.hid hP.out.blk
  clear s0 s1 s2
  have s0 := hBs.out.at_ (i := 0) rfl
  have s1 := hBs.out.at_ (i := 1) rfl
  have s2 := hBs.out.at_ (i := 2) rfl
  go_wp2_with (first
    | (refine wpList_store_mid (by rfl) 36 (.tmp 17) (.tmp 63) (by rfl) w5.heap.size 0 ([.int .i64 v.st, .int .i64 v.fo, .int .i64 v.pub, .slice va vn vc, .slice ua un uc]).toArray (by rfl) (by rfl) hP.out.there hP.out.info (by simpa using hP.out.one) ?_
       generalize hWq : World.setCells _ _ _ _ = Wa
       obtain rfl : v5 = Wa := by rw [← hWq]; exact hP.out.eq
       clear hWq))
  clear hP
  refine (hsB.out _ (HT'.out.below hbw.out) hE.out (HB'.out.below hbw.out)).mono ?_
  rintro e w6 ⟨z, za, zn, zc, ra, rn, rc, rfl, hvm, hon, hst⟩
  have hHz := Lib.hid hon
  clear hsB hon s0 s1 s2
  replace hBs := Lib.hid (hBs.out.below hst hBs.out.lt)
  replace hE := Lib.hid (hE.out.below hst)
  replace hMv := Lib.hid (hMv.out.below hst)
  replace hBv := Lib.hid (hBv.out.below hst hBv.out.lt)
  replace hbw := Lib.hid (hbw.out.trans (hst.mono hbw.out.size))
  clear hst
  have hMz := Lib.hid hvm
  clear hvm
  obtain ⟨v6, hP⟩ : ∃ V, Hid (PutR 36 (w6.alloc (.cells (zrV : List Value).toArray 36)) V w6.heap.size 36 ([.int .i64 z.st, .int .i64 z.fo, .int .i64 z.pub, .slice za zn zc, .slice ra rn rc])) := put_row (Blk.new w6 36 (zrV)) rfl (sizeVw) (view_one _ _ _ _ _ _ _ _ _)
  have hst := below_grown ((Below.refl _ w6).alloc (Nat.le_refl _) _) hP.out.grown (by simp) (Nat.le_refl _)
  replace hBs := Lib.hid (hBs.out.below hst hBs.out.lt)
  replace hE := Lib.hid (hE.out.below hst)
  replace hMv := Lib.hid (hMv.out.below hst)
  replace hBv := Lib.hid (hBv.out.below hst hBv.out.lt)
  replace hMz := Lib.hid (hMz.out.below hst)
  replace hbw := Lib.hid (hbw.out.trans (hst.mono hbw.out.size))
  clear hst
  have hBz := Lib.hid hP.out.blk
  have a0 := hBv.out.at_ (i := 0) rfl
  have a1 := hBv.out.at_ (i := 1) rfl
  have a2 := hBv.out.at_ (i := 2) rfl
  have a3 := hBv.out.at_ (i := 3) rfl
  have a4 := hBv.out.at_ (i := 4) rfl
  go_wp2_with (first
    | (refine wpList_store_mid (by rfl) 36 (.tmp 19) (.tmp 72) (by rfl) w6.heap.size 0 ([.int .i64 z.st, .int .i64 z.fo, .int .i64 z.pub, .slice za zn zc, .slice ra rn rc]).toArray (by rfl) (by rfl) hP.out.there hP.out.info (by simpa using hP.out.one) ?_
       generalize hWq : World.setCells _ _ _ _ = Wa
       obtain rfl : v6 = Wa := by rw [← hWq]; exact hP.out.eq
       clear hWq))
  clear hP a0 a1 a2 a3 a4
  have hck := viewCheck_any v va vn vc ua un uc _ (HT'.out.below hbw.out) hMv.out
  rw [show Go.Vw.checkV v = 0 by unfold Go.Vw.checkV; rw [(Go.Vw.validB_iff v).2 hHv.out.ok]; rfl] at hck
  refine hck.mono ?_
  rintro e w7 ⟨rfl, hst⟩
  clear hck
  replace hBs := Lib.hid (hBs.out.below hst hBs.out.lt)
  replace hE := Lib.hid (hE.out.below hst)
  replace hMv := Lib.hid (hMv.out.below hst)
  replace hBv := Lib.hid (hBv.out.below hst hBv.out.lt)
  replace hMz := Lib.hid (hMz.out.below hst)
  replace hBz := Lib.hid (hBz.out.below hst hBz.out.lt)
  replace hbw := Lib.hid (hbw.out.trans (hst.mono hbw.out.size))
  clear hst
  have b0 := hBz.out.at_ (i := 0) rfl
  have b1 := hBz.out.at_ (i := 1) rfl
  have b2 := hBz.out.at_ (i := 2) rfl
  have b3 := hBz.out.at_ (i := 3) rfl
  have b4 := hBz.out.at_ (i := 4) rfl
  go_wp2_with fail
  have hck := viewCheck_any z za zn zc ra rn rc _ (HT'.out.below hbw.out) hMz.out
  rw [show Go.Vw.checkV z = 0 by unfold Go.Vw.checkV; rw [(Go.Vw.validB_iff z).2 hHz.out.ok]; rfl] at hck
  refine hck.mono ?_
  rintro e w8 ⟨rfl, hst⟩
  clear hck b0 b1 b2 b3 b4
  replace hBs := Lib.hid (hBs.out.below hst hBs.out.lt)
  replace hE := Lib.hid (hE.out.below hst)
  replace hMv := Lib.hid (hMv.out.below hst)
  replace hBv := Lib.hid (hBv.out.below hst hBv.out.lt)
  replace hMz := Lib.hid (hMz.out.below hst)
  replace hBz := Lib.hid (hBz.out.below hst hBz.out.lt)
  replace hbw := Lib.hid (hbw.out.trans (hst.mono hbw.out.size))
  clear hst
  go_wp2_with fail
  have x63 : (xn : Int) ≤ 6 := by omega
  go_loopw [21, 22] (fun mo i wr => ∃ k : Nat, k ≤ xn ∧ mo = .int .i64 ((mostN tn (A.take k) : Nat) : Int) ∧ i = .int .i64 k ∧ wr = w8) (fun _ i _ => xn - (intOf i).toNat)
  case atStart => exact ⟨0, Nat.zero_le _, rfl, rfl, rfl⟩
  case round =>
    obtain ⟨k, hk, rfl, rfl, rfl⟩ := hrel
    by_cases hlt : k < xn
    · obtain ⟨x, hx⟩ : ∃ x, A[k]? = some x := ⟨_, List.getElem?_eq_getElem (by have := lA.out; omega)⟩
      have hbs : BS w xa xn xc A := by
        rcases HA'.out with h | ⟨h0, _⟩
        · exact h
        · omega
      have hx256 := hbs.lt x (List.mem_of_getElem? hx)
      obtain ⟨ad, rfl⟩ : ∃ ad, xa = some ad := by
        cases hca : xa with
        | some ad => exact ⟨ad, rfl⟩
        | none => have := hbs.nil hca; omega
      obtain ⟨cb, co, rfl, hcb, hcell⟩ := hbs.cells ad rfl
      have cx := (hbw.out.cell (p := ⟨cb, co + k, none⟩) hcb).trans (hcell k x hx)
      have hms := mostN_step (n := tn) hx
      have hml := mostN_le tn (A.take k)
      obtain ⟨hm, em⟩ := rem_bd' x tn
      obtain ⟨m, hmm⟩ : ∃ m, Hid (x % (tn + 1) = m) := ⟨_, rfl⟩
      obtain ⟨mo, hmo⟩ : ∃ m, Hid (mostN tn (A.take k) = m) := ⟨_, rfl⟩
      rw [hmm.out] at hm em hms
      rw [hmo.out] at hms hml ⊢
      have hms' := Lib.hid hms
      have hmax : max (mo : Int) (m : Int) = ((max mo m : Nat) : Int) := by omega
      clear hmm hmo hbs hcell hx hms
      have k0 : (0 : Int) ≤ (k : Int) := by omega
      have k1 : (k : Int) < (xn : Int) := by omega
      have w1x : IntKind.i64.wrap (x : Int) = (x : Int) := IntWalk.i64_in _ (by omega)
      have w1n : IntKind.i64.wrap ((tn : Int) + 1) = (tn : Int) + 1 := IntWalk.i64_in _ (by omega)
      have nz2 : ((tn : Int) + 1 = 0) = False := by simp; omega
      go_wp2_with fail
      go_roundw
      case rel => exact ⟨k + 1, by omega, by rw [hms'.out], by go_num, by trivial⟩
      case measure => simp [intOf]; omega
    · obtain rfl : xn = k := by omega
      have hmo : mostN tn (A.take xn) = mostN tn A := by rw [List.take_of_length_le (Nat.le_of_eq lA.out)]
      rw [hmo]
      have hml := mostN_le tn A
      obtain ⟨mo, hmo2⟩ : ∃ m, Hid (mostN tn A = m) := ⟨_, rfl⟩
      rw [hmo2.out] at hml hHv ⊢
      clear hmo hmo2
      have a0 := hBv.out.at_ (i := 0) rfl
      have a1 := hBv.out.at_ (i := 1) rfl
      have a2 := hBv.out.at_ (i := 2) rfl
      have a3 := hBv.out.at_ (i := 3) rfl
      have a4 := hBv.out.at_ (i := 4) rfl
      have b0 := hBz.out.at_ (i := 0) rfl
      have b1 := hBz.out.at_ (i := 1) rfl
      have b2 := hBz.out.at_ (i := 2) rfl
      have b3 := hBz.out.at_ (i := 3) rfl
      have b4 := hBz.out.at_ (i := 4) rfl
      go_wp2_with fail
      have hcm := compare_any v va vn vc ua un uc z za zn zc ra rn rc _ (HT'.out.below hbw.out) hMv.out hMz.out
      rw [Go.Vw.hon_cmp hHv.out hHz.out] at hcm
      refine hcm.mono ?_
      rintro e w9 ⟨fa, fn, fc, rfl, _, _, _, hst⟩
      clear hcm a0 a1 a2 a3 a4 b0 b1 b2 b3 b4
      replace hBs := Lib.hid (hBs.out.below hst hBs.out.lt)
      replace hE := Lib.hid (hE.out.below hst)
      replace hMv := Lib.hid (hMv.out.below hst)
      replace hBv := Lib.hid (hBv.out.below hst hBv.out.lt)
      replace hMz := Lib.hid (hMz.out.below hst)
      replace hBz := Lib.hid (hBz.out.below hst hBz.out.lt)
      replace hbw := Lib.hid (hbw.out.trans (hst.mono hbw.out.size))
      clear hst
      obtain ⟨v9, hP⟩ : ∃ V, Hid (PutR 48 (w9.alloc (.cells (zrF : List Value).toArray 48)) V w9.heap.size 48 (forkC zeroF fa fn fc)) := put_row (Blk.new w9 48 (zrF)) (by rw [forkC_len okF0]; rfl) (by rw [forkC_len okF0]; exact sizeF) (forkC_one okF0 _ _ _)
      have hst := below_grown ((Below.refl _ w9).alloc (Nat.le_refl _) _) hP.out.grown (by simp) (Nat.le_refl _)
      replace hBs := Lib.hid (hBs.out.below hst hBs.out.lt)
      replace hE := Lib.hid (hE.out.below hst)
      replace hMv := Lib.hid (hMv.out.below hst)
      replace hBv := Lib.hid (hBv.out.below hst hBv.out.lt)
      replace hMz := Lib.hid (hMz.out.below hst)
      replace hBz := Lib.hid (hBz.out.below hst hBz.out.lt)
      replace hbw := Lib.hid (hbw.out.trans (hst.mono hbw.out.size))
      clear hst
      have hBf := Lib.hid hP.out.blk
      clear hBf
      have a0 := hBv.out.at_ (i := 0) rfl
      have a1 := hBv.out.at_ (i := 1) rfl
      have a2 := hBv.out.at_ (i := 2) rfl
      have a3 := hBv.out.at_ (i := 3) rfl
      have a4 := hBv.out.at_ (i := 4) rfl
      have b0 := hBz.out.at_ (i := 0) rfl
      have b1 := hBz.out.at_ (i := 1) rfl
      have b2 := hBz.out.at_ (i := 2) rfl
      have b3 := hBz.out.at_ (i := 3) rfl
      have b4 := hBz.out.at_ (i := 4) rfl
      go_wp2_with (first
        | (refine wpList_store_mid (by rfl) 48 (.tmp 23) (.tmp 111) (by rfl) w9.heap.size 0 ((forkC zeroF fa fn fc)).toArray (by rfl) (by rfl) hP.out.there hP.out.info (by simpa using hP.out.one) ?_
           generalize hWq : World.setCells _ _ _ _ = Wa
           obtain rfl : v9 = Wa := by rw [← hWq]; exact hP.out.eq
           clear hWq))
      clear hP
      have hcm := compare_any z za zn zc ra rn rc v va vn vc ua un uc _ (HT'.out.below hbw.out) hMz.out hMv.out
      rw [Go.Vw.hon_cmp hHz.out hHv.out] at hcm
      refine hcm.mono ?_
      rintro e w10 ⟨fa2, fn2, fc2, rfl, _, _, _, hst⟩
      clear hcm a0 a1 a2 a3 a4 b0 b1 b2 b3 b4
      replace hBs := Lib.hid (hBs.out.below hst hBs.out.lt)
      replace hE := Lib.hid (hE.out.below hst)
      replace hMv := Lib.hid (hMv.out.below hst)
      replace hBv := Lib.hid (hBv.out.below hst hBv.out.lt)
      replace hMz := Lib.hid (hMz.out.below hst)
      replace hBz := Lib.hid (hBz.out.below hst hBz.out.lt)
      replace hbw := Lib.hid (hbw.out.trans (hst.mono hbw.out.size))
      clear hst
      obtain ⟨v10, hP⟩ : ∃ V, Hid (PutR 48 (w10.alloc (.cells (zrF : List Value).toArray 48)) V w10.heap.size 48 (forkC zeroF fa2 fn2 fc2)) := put_row (Blk.new w10 48 (zrF)) (by rw [forkC_len okF0]; rfl) (by rw [forkC_len okF0]; exact sizeF) (forkC_one okF0 _ _ _)
      have hst := below_grown ((Below.refl _ w10).alloc (Nat.le_refl _) _) hP.out.grown (by simp) (Nat.le_refl _)
      replace hBs := Lib.hid (hBs.out.below hst hBs.out.lt)
      replace hE := Lib.hid (hE.out.below hst)
      replace hMv := Lib.hid (hMv.out.below hst)
      replace hBv := Lib.hid (hBv.out.below hst hBv.out.lt)
      replace hMz := Lib.hid (hMz.out.below hst)
      replace hBz := Lib.hid (hBz.out.below hst hBz.out.lt)
      replace hbw := Lib.hid (hbw.out.trans (hst.mono hbw.out.size))
      clear hst
      have hBf := Lib.hid hP.out.blk
      clear hBf
      go_upto_region 18 with (first
        | (refine wpList_store_mid (by rfl) 48 (.tmp 25) (.tmp 117) (by rfl) w10.heap.size 0 ((forkC zeroF fa2 fn2 fc2)).toArray (by rfl) (by rfl) hP.out.there hP.out.info (by simpa using hP.out.one) ?_
           generalize hWq : World.setCells _ _ _ _ = Wa
           obtain rfl : v10 = Wa := by rw [← hWq]; exact hP.out.eq
           clear hWq))
      clear hP
      have hsl := fun W => slice_h hE.out hml W
      have a3 := hBv.out.at_ (i := 3) rfl
      have alt := hBv.out.lt
      have hEk := Lib.hid (hE.out.take (k := mo) hml)
      have hvd := Lib.hid hHv.out.ds
      refine wp_region_held_drew (S := fun wz => Below v10.heap.size v10 wz) (by kernel_rfl) ((Below.refl _ v10).drew) (fun hHeld => ?_)
      refine wpAnyH_take (i := 0) (oi := { dst := some 119, op := Op.move (Operand.tmp 24), type := 4, pos := _, after := _, guard := none }) (v := ?_) rfl (by kernel_rfl) (by kernel_rfl) (by kernel_rfl) (fun _ _ _ h => h) (Or.inl ⟨by rfl, ?_⟩) hHeld ?_
      rotate_left
      · intro wz hSw
        go_simp
        all_goals (with_reducible rfl)
      try simp only [Act.put, List.setIfInBounds_toArray, List.set_cons_zero, List.set_cons_succ]
      refine wpAnyH_take (i := 1) (oi := { dst := some 120, op := Op.unOp UnOp.not 4 (Operand.tmp 119), type := 4, pos := _, after := _, guard := none }) (v := ?_) rfl (by kernel_rfl) (by kernel_rfl) (by kernel_rfl) (fun _ _ _ h => h) (Or.inl ⟨by rfl, ?_⟩) hHeld ?_
      rotate_left
      · intro wz hSw
        go_simp
        all_goals (with_reducible rfl)
      try simp only [Act.put, List.setIfInBounds_toArray, List.set_cons_zero, List.set_cons_succ]
      refine wpAnyH_take (i := 2) (oi := { dst := some 121, op := Op.move (Operand.tmp 120), type := 4, pos := _, after := _, guard := none }) (v := ?_) rfl (by kernel_rfl) (by kernel_rfl) (by kernel_rfl) (fun _ _ _ h => h) (Or.inl ⟨by rfl, ?_⟩) hHeld ?_
      rotate_left
      · intro wz hSw
        go_simp
        all_goals (with_reducible rfl)
      try simp only [Act.put, List.setIfInBounds_toArray, List.set_cons_zero, List.set_cons_succ]
      refine wpAnyH_take (i := 3) (oi := { dst := some 122, op := Op.move (Operand.tmp 26), type := 4, pos := _, after := _, guard := some (2, true) }) (v := ?_) rfl (by kernel_rfl) (by kernel_rfl) (by kernel_rfl) (fun _ _ _ h => h) (Or.inl ⟨by rfl, ?_⟩) hHeld ?_
      rotate_left
      · intro wz hSw
        go_simp
        all_goals (with_reducible rfl)
      try simp only [Act.put, List.setIfInBounds_toArray, List.set_cons_zero, List.set_cons_succ]
      refine wpAnyH_take (i := 4) (oi := { dst := some 123, op := Op.unOp UnOp.not 4 (Operand.tmp 122), type := 4, pos := _, after := _, guard := some (2, true) }) (v := ?_) rfl (by kernel_rfl) (by kernel_rfl) (by kernel_rfl) (fun _ _ _ h => h) (Or.inl ⟨by rfl, ?_⟩) hHeld ?_
      rotate_left
      · intro wz hSw
        go_simp
        all_goals (with_reducible rfl)
      try simp only [Act.put, List.setIfInBounds_toArray, List.set_cons_zero, List.set_cons_succ]
      refine wpAnyH_take (i := 5) (oi := { dst := some 124, op := Op.pick (Operand.tmp 121) (Operand.tmp 123) (Operand.const (Value.bool false)), type := 4, pos := _, after := _, guard := none }) (v := ?_) rfl (by kernel_rfl) (by kernel_rfl) (by kernel_rfl) (fun _ _ _ h => h) (Or.inl ⟨by rfl, ?_⟩) hHeld ?_
      rotate_left
      · intro wz hSw
        go_simp
        all_goals (with_reducible rfl)
      try simp only [Act.put, List.setIfInBounds_toArray, List.set_cons_zero, List.set_cons_succ]
      refine wpAnyH_take (i := 6) (oi := { dst := some 125, op := Op.move (Operand.tmp 124), type := 4, pos := _, after := _, guard := none }) (v := ?_) rfl (by kernel_rfl) (by kernel_rfl) (by kernel_rfl) (fun _ _ _ h => h) (Or.inl ⟨by rfl, ?_⟩) hHeld ?_
      rotate_left
      · intro wz hSw
        go_simp
        all_goals (with_reducible rfl)
      try simp only [Act.put, List.setIfInBounds_toArray, List.set_cons_zero, List.set_cons_succ]
      refine wpAnyH_take (i := 7) (oi := { dst := some 126, op := Op.fieldAddr 36 (Operand.tmp 17) 3, type := 0, pos := _, after := _, guard := some (6, true) }) (v := ?_) rfl (by kernel_rfl) (by kernel_rfl) (by kernel_rfl) (fun _ _ _ h => h) (Or.inl ⟨by rfl, ?_⟩) hHeld ?_
      rotate_left
      · intro wz hSw
        go_simp
        all_goals (with_reducible rfl)
      try simp only [Act.put, List.setIfInBounds_toArray, List.set_cons_zero, List.set_cons_succ]
      refine wpAnyH_take (i := 8) (oi := { dst := some 127, op := Op.load 33 (Operand.tmp 126), type := 33, pos := _, after := _, guard := some (6, true) }) (v := ?_) rfl (by kernel_rfl) (by kernel_rfl) (by kernel_rfl) (fun _ _ _ h => h) (Or.inl ⟨by rfl, ?_⟩) hHeld ?_
      rotate_left
      · intro wz hSw
        have q := (hSw.cell (p := ⟨w5.heap.size, 3, none⟩) alt).trans a3
        go_simp
        all_goals (with_reducible rfl)
      try simp only [Act.put, List.setIfInBounds_toArray, List.set_cons_zero, List.set_cons_succ]
      refine wpAnyH_take (i := 9) (oi := { dst := some 128, op := Op.move (Operand.tmp 16), type := 31, pos := _, after := _, guard := some (6, true) }) (v := ?_) rfl (by kernel_rfl) (by kernel_rfl) (by kernel_rfl) (fun _ _ _ h => h) (Or.inl ⟨by rfl, ?_⟩) hHeld ?_
      rotate_left
      · intro wz hSw
        go_simp
        all_goals (with_reducible rfl)
      try simp only [Act.put, List.setIfInBounds_toArray, List.set_cons_zero, List.set_cons_succ]
      refine wpAnyH_take (i := 10) (oi := { dst := some 129, op := Op.move (Operand.tmp 21), type := 3, pos := _, after := _, guard := some (6, true) }) (v := ?_) rfl (by kernel_rfl) (by kernel_rfl) (by kernel_rfl) (fun _ _ _ h => h) (Or.inl ⟨by rfl, ?_⟩) hHeld ?_
      rotate_left
      · intro wz hSw
        go_simp
        all_goals (with_reducible rfl)
      try simp only [Act.put, List.setIfInBounds_toArray, List.set_cons_zero, List.set_cons_succ]
      refine wpAnyH_take (i := 11) (oi := { dst := some 130, op := Op.slice 31 (Operand.tmp 128) none (some (Operand.tmp 129)) none, type := 31, pos := _, after := _, guard := some (6, true) }) (v := ?_) rfl (by kernel_rfl) (by kernel_rfl) (by kernel_rfl) (fun _ _ _ h => h) (Or.inl ⟨by rfl, ?_⟩) hHeld ?_
      rotate_left
      · intro wz hSw
        go_simp
        all_goals (with_reducible rfl)
      try simp only [Act.put, List.setIfInBounds_toArray, List.set_cons_zero, List.set_cons_succ]
      refine wpAnyH_ready (rs := [12]) (by kernel_rfl) (by simp) ?_
      refine AllReadyH.cons (o := { dst := some 131, op := Op.call { callee := Callee.value (Operand.func 15), args := #[Operand.tmp 130], argTypes := #[31] }, type := 33, pos := _, after := _, guard := some (6, true) }) rfl (fun K hK => ?_) AllReadyH.nil
      rw [if_pos (by rfl)]
      show Oper.wp _ _ _ _ K _
      go_simp
      go_at_call 15
      refine (digs_at _ (hEk.out.below hHeld)).mono ?_
      rintro e wa ⟨oa, oc, rfl, hD0, hbq⟩
      have hO := Lib.hid hD0
      rw [hPm.out, ← hvd.out] at hO
      clear hD0
      refine hK.out _ _ (hHeld.trans (hbq.mono hHeld.size)) (fun hHeld => ?_)
      clear hbq
      clear hK K
      try simp only [Act.put, List.setIfInBounds_toArray, List.set_cons_zero, List.set_cons_succ]
      refine wpAnyH_ready (rs := [13]) (by kernel_rfl) (by simp) ?_
      refine AllReadyH.cons (o := { dst := some 132, op := Op.call { callee := Callee.value (Operand.func 14), args := #[Operand.tmp 127, Operand.tmp 131], argTypes := #[33, 33] }, type := 4, pos := _, after := _, guard := some (6, true) }) rfl (fun K hK => ?_) AllReadyH.nil
      rw [if_pos (by rfl)]
      show Oper.wp _ _ _ _ K _
      go_simp
      go_at_call 14
      have hsd := sameD_any va vn vc v.ds oa mo oc v.ds _ ((hMv.out.below hHeld).ds) hO.out
      rw [decide_eq_true (rfl : v.ds = v.ds)] at hsd
      refine hsd.mono ?_
      rintro e wb ⟨rfl, hbq⟩
      clear hO hsd
      refine hK.out _ _ (hHeld.trans (hbq.mono hHeld.size)) (fun hHeld => ?_)
      clear hbq
      clear hK K
      try simp only [Act.put, List.setIfInBounds_toArray, List.set_cons_zero, List.set_cons_succ]
      refine wpAnyH_take (i := 14) (oi := { dst := some 133, op := Op.pick (Operand.tmp 125) (Operand.tmp 132) (Operand.const (Value.bool false)), type := 4, pos := _, after := _, guard := none }) (v := ?_) rfl (by kernel_rfl) (by kernel_rfl) (by kernel_rfl) (fun _ _ _ h => h) (Or.inl ⟨by rfl, ?_⟩) hHeld ?_
      rotate_left
      · intro wz hSw
        go_simp
        all_goals (with_reducible rfl)
      try simp only [Act.put, List.setIfInBounds_toArray, List.set_cons_zero, List.set_cons_succ]
      refine wpAnyH_take (i := 15) (oi := { dst := some 12, op := Op.assign (Operand.tmp 133), type := 4, pos := _, after := _, guard := none }) (v := ?_) rfl (by kernel_rfl) (by kernel_rfl) (by kernel_rfl) (fun _ _ _ h => h) (Or.inl ⟨by rfl, ?_⟩) hHeld ?_
      rotate_left
      · intro wz hSw
        go_simp
        all_goals (with_reducible rfl)
      try simp only [Act.put, List.setIfInBounds_toArray, List.set_cons_zero, List.set_cons_succ]
      refine wpAnyH_done (by kernel_rfl) ?_ _
      have hf := Lib.hid (hfin.out _ (hbw.out.trans (hHeld.mono hbw.out.size)))
      clear hHeld
      go_wp2_with fail
      exact hf.out
end Go.Proofs.YtiionehcmoginaaDoor
namespace Go.Proofs.YtiionehcmoginaaDoor.lawHonest
open Go.ChangeShapes Go.WideShapes Go.ChangeAt Go.RowKit Go.Mem
open Go.Proofs.YtiionehcmoginaaDoor

set_option maxRecDepth 100000 in
theorem lifted (os : Os) (started : os.Started) (H : Type) (enc : TypeId × Value → H) :
    ReturnsInHanded {} Tryd.checked os 3 .any (fun w args => (Rows.viewsHonestSpec.pre enc Tryd.prog Tryd.f3 [] false w args ∧ laidMetH Tryd.prog laid2 w) ∧ sizedMet enc Tryd.prog Tryd.f3 (OpenSpec.ofChange Rows.viewsHonestSpec) false w args)
      (Rows.viewsHonestSpec.post enc Tryd.prog Tryd.f3 false true false false) := by
  refine returnsInHanded_of_change_and (C := Tryd.checked) (X := fun w _ => laidMetH Tryd.prog laid2 w) (fun _ _ _ hh h => h.of_heap hh) own started (by kernel_rfl) Tryd.func3
    (ChangeSpec.witness_shaped (enc := enc) (C := Tryd.checked) (os := os) (X := fun w _ => laidMetH Tryd.prog laid2 w) false (World.doorLaid Tryd.prog 400 os) #[.int .i64 0, .int .i64 0, .int .i64 0, .slice none 0 0, .slice none 0 0, .slice none 0 0] 8 rfl (World.shaped_of_RefB (by kernel_rfl) (by kernel_rfl)) (by kernel_rfl) (by kernel_rfl) (by kernel_rfl) (door_met os _)) ?_
  intro W base args ds gs before hval0 hW _ hwt hL _
  have hval : ∀ (j : Nat) t v, Tryd.f3.params[j]? = some t → args[j]? = some v → Value.okWide Tryd.prog W .any base t v := hval0
  have hW' := hW
  obtain ⟨p, q, hA0, hV, rfl, hfz, hnd⟩ := hW
  have hA : DataW.TrodAll enc Tryd.prog W 0 (fun _ => true) true Tryd.f3.params.toList args.toList ds p := hA0
  rw [Tryd.params3] at hA hval
  obtain ⟨v0, vs0, d0, ds0, p0, q0, hargs, rfl, rfl, h0, r0⟩ := trodAll_cons hA
  obtain ⟨v1, vs1, d1, ds1, p1, q1, rfl, rfl, rfl, h1, r1⟩ := trodAll_cons r0
  obtain ⟨v2, vs2, d2, ds2, p2, q2, rfl, rfl, rfl, h2, r2⟩ := trodAll_cons r1
  obtain ⟨v3, vs3, d3, ds3, p3, q3, rfl, rfl, rfl, h3, r3⟩ := trodAll_cons r2
  obtain ⟨v4, vs4, d4, ds4, p4, q4, rfl, rfl, rfl, h4, r4⟩ := trodAll_cons r3
  obtain ⟨v5, vs5, d5, ds5, p5, q5, rfl, rfl, rfl, h5, r5⟩ := trodAll_cons r4
  obtain ⟨rfl, rfl, rfl⟩ := trodAll_nil r5
  obtain rfl : args = #[v0, v1, v2, v3, v4, v5] := by cases args; simp_all
  obtain ⟨rfl, rfl⟩ := trodVars_none hV
  have lt0 : ∀ x ∈ p0, x.block < W.heap.size := by obtain ⟨m, hm⟩ := h0; exact DataW.trod_lt m _ _ _ hm
  have lt1 : ∀ x ∈ p1, x.block < W.heap.size := by obtain ⟨m, hm⟩ := h1; exact DataW.trod_lt m _ _ _ hm
  have lt2 : ∀ x ∈ p2, x.block < W.heap.size := by obtain ⟨m, hm⟩ := h2; exact DataW.trod_lt m _ _ _ hm
  have lt3 : ∀ x ∈ p3, x.block < W.heap.size := by obtain ⟨m, hm⟩ := h3; exact DataW.trod_lt m _ _ _ hm
  have lt4 : ∀ x ∈ p4, x.block < W.heap.size := by obtain ⟨m, hm⟩ := h4; exact DataW.trod_lt m _ _ _ hm
  have lt5 : ∀ x ∈ p5, x.block < W.heap.size := by obtain ⟨m, hm⟩ := h5; exact DataW.trod_lt m _ _ _ hm
  have k0' := h0
  have k1' := h1
  have k2' := h2
  have k3' := h3
  have k4' := h4
  have k5' := h5
  rw [Tryd.params3] at hwt
  simp only [List.cons_append, List.nil_append, DataW.weightsEach, List.all_append, Bool.and_eq_true] at hwt
  obtain ⟨x0, rfl⟩ := okWide_int Tryd.underlying3 (hval 0 3 v0 rfl rfl)
  obtain ⟨m0, hm0⟩ := h0
  obtain ⟨x0', e0, i0⟩ := open_int1 (cs := [.int .i64 x0]) (by simpa [Value.cells] using hm0)
  obtain rfl : x0 = x0' := by simpa using e0
  clear hm0 e0
  obtain ⟨x1, rfl⟩ := okWide_int Tryd.underlying3 (hval 1 3 v1 rfl rfl)
  obtain ⟨m1, hm1⟩ := h1
  obtain ⟨x1', e1, i1⟩ := open_int1 (cs := [.int .i64 x1]) (by simpa [Value.cells] using hm1)
  obtain rfl : x1 = x1' := by simpa using e1
  clear hm1 e1
  obtain ⟨x2, rfl⟩ := okWide_int Tryd.underlying3 (hval 2 3 v2 rfl rfl)
  obtain ⟨m2, hm2⟩ := h2
  obtain ⟨x2', e2, i2⟩ := open_int1 (cs := [.int .i64 x2]) (by simpa [Value.cells] using hm2)
  obtain rfl : x2 = x2' := by simpa using e2
  clear hm2 e2
  obtain ⟨a3, n3, c3, rfl⟩ := okWide_slice Tryd.underlying22 (hval 3 22 v3 rfl rfl)
  obtain ⟨m3, hm3⟩ := h3
  obtain ⟨_, _, _, l3, e3, S3, B3'⟩ := open_strs (cs := [.slice a3 n3 c3]) (by simpa [Value.cells] using hm3)
  simp only [List.cons.injEq, Value.slice.injEq, and_true] at e3
  obtain ⟨rfl, rfl, rfl⟩ := e3
  have B3 := B3' (hwt.2.2.2.1)
  clear hm3
  obtain ⟨a4, n4, c4, rfl⟩ := okWide_slice Tryd.underlying23 (hval 4 23 v4 rfl rfl)
  obtain ⟨m4, hm4⟩ := h4
  obtain ⟨_, _, _, l4, e4, S4⟩ := open_bytes' (cs := [.slice a4 n4 c4]) (by simpa [Value.cells] using hm4)
  simp only [List.cons.injEq, Value.slice.injEq, and_true] at e4
  obtain ⟨rfl, rfl, rfl⟩ := e4
  clear hm4
  obtain ⟨a5, n5, c5, rfl⟩ := okWide_slice Tryd.underlying23 (hval 5 23 v5 rfl rfl)
  obtain ⟨m5, hm5⟩ := h5
  obtain ⟨_, _, _, l5, e5, S5⟩ := open_bytes' (cs := [.slice a5 n5 c5]) (by simpa [Value.cells] using hm5)
  simp only [List.cons.injEq, Value.slice.injEq, and_true] at e5
  obtain ⟨rfl, rfl, rfl⟩ := e5
  clear hm5
  have hT := tabs_of_laid hL
  clear hA0 hval0
  refine (honest_walk x0 i0 x1 i1 x2 i2 a3 n3 c3 l3 a4 n4 c4 l4 a5 n5 c5 l5 W hT S3 S4 S5 B3).mono fun e W' ⟨he, bel⟩ => ?_
  subst he
  exact ⟨_, rfl, _, _, _, [], _, [], hW', trodAll_mk1 (shut_bool Tryd.underlying4 _),
    (trodAll_cons_mk (Below.trod laidOut (by kernel_rfl) (of_decide_eq_true (by kernel_rfl)) k0' bel lt0) (trodAll_cons_mk (Below.trod laidOut (by kernel_rfl) (of_decide_eq_true (by kernel_rfl)) k1' bel lt1) (trodAll_cons_mk (Below.trod laidOut (by kernel_rfl) (of_decide_eq_true (by kernel_rfl)) k2' bel lt2) (trodAll_cons_mk (Below.trod laidOut (by kernel_rfl) (of_decide_eq_true (by kernel_rfl)) k3' bel lt3) (trodAll_cons_mk (Below.trod laidOut (by kernel_rfl) (of_decide_eq_true (by kernel_rfl)) k4' bel lt4) (trodAll_cons_mk (Below.trod laidOut (by kernel_rfl) (of_decide_eq_true (by kernel_rfl)) k5' bel lt5) trodAll_mk0)))))), rfl, bel.frame _, fun h => by cases h⟩

theorem over : Rows.ViewsHonestSaid :=
  OpenClaim.holds_of_wide 3 Tryd.f3 rfl rfl rfl rfl rfl rfl rfl ⟨rfl, rfl, rfl, rfl, rfl⟩ rfl rfl rfl rfl rfl (by kernel_rfl) Tryd.func3 (by kernel_rfl)
    (of_decide_eq_true (by kernel_rfl)) (by unfold Func.isWrapper; first | (rw [if_pos (by decide +kernel)]; kernel_rfl) | (rw [if_neg (by decide +kernel)]; exact ⟨rfl, rfl⟩))
    (fun os started H enc _ => lifted os started H enc)

theorem proved : Rows.ViewsHonestCardSaid :=
  Claim7.holds_tied_plain_at .later [] [.data, .data] true (true, "608cd0720f91ff3ad574156353b6f30fe2f73723675f14731deb4c629b150d9f") false
    over (fun _ h => by cases h) (by kernel_rfl) (fun _ h => by cases h) viewsHonest_row_tie rfl ⟨rfl, rfl⟩ (by kernel_rfl) rfl
    (fun f fn hf hfn => by
      obtain rfl : f = 3 := Option.some.inj ((show Tryd.prog.funcNamed "chartroom/chartroomlaw32.ViewsHonest" = some 3 by kernel_rfl).symm.trans hf) |>.symm
      obtain rfl : fn = Tryd.f3 := (Option.some.inj (Tryd.func3.symm.trans hfn)).symm
      exact ⟨by kernel_rfl, fun j t ht => by
        rw [Tryd.params3] at ht
        have hm : t ∈ [3, 3, 3, 22, 23, 23] := by simpa using Array.mem_of_getElem? ht
        have hall : ([3, 3, 3, 22, 23, 23].all fun u => !Tryd.prog.wantsStandIn u) = true := by kernel_rfl
        exact (show Tryd.prog.wantsStandIn t = false by simpa using List.all_eq_true.1 hall t hm)⟩)
    (by kernel_rfl)
#print axioms proved
end Go.Proofs.YtiionehcmoginaaDoor.lawHonest

