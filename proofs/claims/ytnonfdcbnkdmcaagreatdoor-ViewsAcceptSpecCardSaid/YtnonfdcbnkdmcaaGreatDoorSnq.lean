/- sane of chapter 32's laws -/
import Derived.Test.YtnonfdcbnkdmcaaGreatDoorAl
import Derived.Test.YtnonfdcbnkdmcaaGreatDoorVwE
import Derived.Test.YtnonfdcbnkdmcaaGreatDoorVwD
import Derived.Test.YtnonfdcbnkdmcaaGreatDoorAcc
namespace Go.Proofs.YtnonfdcbnkdmcaaGreatDoor
open Go.RowKit Go.Mem Go.Shelf
open Go.Sto (Ent)
open Go.Vw (entT Hd Fk Sg one two odd tA tB tC vN vY newV zeroV zeroF zeroH)

theorem txs1 (W : World) (s : ByteArray) : TxS (W.alloc (.cells #[.string s] 9)) (some ⟨W.heap.size, 0, none⟩) 1 1 [s] := by
 have hB := Blk.new W 9 [.string s]
 refine ⟨rfl, fun _ _ _ => trivial, [[.string s]], ⟨rfl, Nat.le_refl _, by unfold maxLen; omega, (fun e => by cases e), fun _ => ⟨_, 0, rfl, hB.lt, fun j u hj => ?_⟩⟩, RowsOf.one rfl rfl⟩
 rw [Nat.zero_add]
 exact hB.at_ (by simpa using hj)
theorem txs2 (W : World) (s t : ByteArray) : TxS (W.alloc (.cells #[.string s, .string t] 9)) (some ⟨W.heap.size, 0, none⟩) 2 2 [s, t] := by
 have hB := Blk.new W 9 [.string s, .string t]
 refine ⟨rfl, fun _ _ _ => trivial, [[.string s], [.string t]], ⟨rfl, Nat.le_refl _, by unfold maxLen; omega, (fun e => by cases e), fun _ => ⟨_, 0, rfl, hB.lt, fun j u hj => ?_⟩⟩, RowsOf.append (R := fun (s : ByteArray) (r : List Value) => r = [.string s]) (s := 1) (RowsOf.one rfl rfl) (RowsOf.one rfl rfl)⟩
 rw [Nat.zero_add]
 exact hB.at_ (by simpa using hj)
theorem vm_new {st fo pub : Int} (h1 : I64 st) (h2 : I64 fo) (h3 : I64 pub) (W : World) : VM W (newV st fo pub) none 0 0 none 0 0 := ⟨h1, h2, h3, ds_nil _, HS.nil0 _, Nat.zero_le _⟩
theorem fork_zero (W : World) : (Instr.build 53 #[]).run Tryz.prog W = .ok (.agg zrF.toArray) W := run_build W _ _ _ (by kernel_rfl)
structure SnS (w : World) (gP gQ gH : Nat) (f : Fk) (pa : Option Addr) (pn pc : Nat) (q h : Hd) (a : Option Addr) (c : Nat) (wz : World) : Prop where
 bP : Blk wz gP 53 (forkC f pa pn pc)
 bQ : Blk wz gQ 36 (hdC q)
 bH : Blk wz gH 36 (hdC h)
 ds : DS wz pa pn pc f.ds
 es : ES (fun _ => True) wz a 2 c two
 bel : Below w.heap.size w wz
theorem SnS.below {w : World} {gP gQ gH pn pc c : Nat} {f : Fk} {pa a : Option Addr} {q h : Hd} {wz wq : World} (H : SnS w gP gQ gH f pa pn pc q h a c wz) (hb : Below wz.heap.size wz wq) : SnS w gP gQ gH f pa pn pc q h a c wq :=
 ⟨H.bP.below hb H.bP.lt, H.bQ.below hb H.bQ.lt, H.bH.below hb H.bH.lt, H.ds.below hb, H.es.below hb, H.bel.trans (hb.mono H.bel.size)⟩
theorem ck_new0 : Go.Vw.checkV (newV 0 0 0) = 0 := by unfold Go.Vw.checkV; rw [Go.Vw.ex_new0]; rfl
theorem ck_new4 : Go.Vw.checkV (newV 4 0 0) = 320 := by unfold Go.Vw.checkV; rw [Go.Vw.ex_new4]; rfl
theorem openB_ex : OpenB 0 5 3 = true := by decide

set_option maxRecDepth 100000 in
set_option maxHeartbeats 20000000 in
theorem sane32_any (w : World) (HT : Tabs w) : Calls Tryz.prog 19 #[] w (RetBo true w) := by
 have HT' := Lib.hid HT
 clear HT
 obtain ⟨hN, okN, eN, sN⟩ := sign_hd ⟨0, 5, []⟩ 3 0 [] (by decide) (by decide) (by decide) (by decide) rfl
 obtain ⟨hH, okH, eH, sH⟩ := sign_hd ⟨0, 5, []⟩ 3 2 (two.map (·.dig)) (by decide) (by decide) (by decide) (by decide) rfl
 obtain ⟨hG, okG, eG, sG⟩ := sign_hd ⟨0, 5, []⟩ 3 2 (odd.map (·.dig)) (by decide) (by decide) (by decide) (by decide) rfl
 obtain ⟨hQ, okQ, eQ, sQ⟩ := sign_hd ⟨0, 5, []⟩ 3 1 (one.map (·.dig)) (by decide) (by decide) (by decide) (by decide) rfl
 have hsv : Hid (∀ W, SV (fun _ => True) W none 0 0 ⟨0, 5, []⟩) := fun W => ⟨LS.nil0 _ _, ⟨by decide, by decide⟩, ⟨by decide, by decide⟩⟩
 have hok2 : ∀ l : List ByteArray, (∀ s ∈ l, s.size ≤ 1000000) → ∀ e ∈ l.map entT, OkE e := fun l h e he => by obtain ⟨s, hs, rfl⟩ := List.mem_map.1 he; exact okE_text (h s hs)
 have sgn : ∀ (es : List Ent) (n : Nat) (h : Hd), (∀ e ∈ es, OkE e) → n ≤ 65536 → hdC h = signHd ⟨0, 5, []⟩ 3 n (es.map (·.dig)) → Hid (∀ (K : Nat → Prop) a c W, Tabs W → ES K W a n c es → Calls Tryz.prog 38 #[.agg #[.int .i64 0, .int .i64 5, .slice none 0 0], .int .i64 3, .slice a n c] W (SignHPost (hdC h) 0 W)) := fun es n h ok hn e K a c W hT hE => by
  have := storeSign_any none 0 0 ⟨0, 5, []⟩ 3 ⟨by decide, by decide⟩ K a n c es ok hn W hT (hsv.out W) hE (by decide)
  rw [← e] at this
  exact this
 have sgN := sgn [] 0 hN (fun _ h => by cases h) (by decide) eN
 have sgH := sgn two 2 hH (hok2 [tA, tB] (by decide)) (by decide) eH
 have sgG := sgn odd 2 hG (hok2 [tA, tC] (by decide)) (by decide) eG
 have sgQ := sgn one 1 hQ (hok2 [tA] (by decide)) (by decide) eQ
 clear sgn hok2 eN eH eG eQ
 obtain ⟨p, hp⟩ : ∃ p, Hid (pubB 4 5 = p) := ⟨_, rfl⟩
 have sN : Hid (Sg 0 3 p [] hN) := by show Sg _ _ _ _ _; rw [← hp.out]; exact sN
 have sH : Hid (Sg 0 3 p (two.map (·.dig)) hH) := by show Sg _ _ _ _ _; rw [← hp.out]; exact sH
 have sG : Hid (Sg 0 3 p (odd.map (·.dig)) hG) := by show Sg _ _ _ _ _; rw [← hp.out]; exact sG
 have sQ : Hid (Sg 0 3 p (one.map (·.dig)) hQ) := by show Sg _ _ _ _ _; rw [← hp.out]; exact sQ
 have hpq64 : Hid (I64 p) := by show I64 _; rw [← hp.out]; have := pubB_bd 4 5; exact ⟨by omega, by omega⟩
 obtain ⟨X, hX⟩ : ∃ X, X = RetBo true w := ⟨_, rfl⟩
 have hfin : Hid (∀ W, Below w.heap.size w W → X (.returned (.bool true)) W) := fun W hb => by rw [hX]; exact ⟨rfl, hb⟩
 rw [← hX]
 clear hX
 have hop := Lib.hid (fun W => open32_any 0 5 3 ⟨by decide, by decide⟩ W)
 go_enter Tryz.func19, Tryz.ntmps19
 go_wp2_with fail
 refine (hop.out _).mono ?_
 rintro e w1 ⟨i, q, pq, rfl, hop2, hbw0⟩
 obtain ⟨rfl, rfl, hpq⟩ := hop2 openB_ex
 rw [hp.out] at hpq
 subst hpq
 rw [openB_ex]
 have hbw := Lib.hid hbw0
 clear hbw0 hop hop2
 obtain ⟨v1, hP⟩ : ∃ V, Hid (PutR 24 (w1.alloc (.cells ([.int .i64 0, .int .i64 0, .slice none 0 0] : List Value).toArray 24)) V w1.heap.size 24 ([.int .i64 0, .int .i64 5, .slice none 0 0])) := put_row (Blk.new w1 24 ([.int .i64 0, .int .i64 0, .slice none 0 0])) rfl (sizeS3) (by intro u hu; simp only [List.mem_cons, List.not_mem_nil, or_false] at hu; rcases hu with rfl | rfl | rfl <;> rfl)
 have hst := below_grown ((Below.refl _ w1).alloc (Nat.le_refl _) _) hP.out.grown (by simp) (Nat.le_refl _)
 replace hbw := Lib.hid (hbw.out.trans (hst.mono hbw.out.size))
 clear hst
 have hBs := Lib.hid hP.out.blk
 go_wp2_with (first
  | (refine wpList_store_mid (by rfl) 24 (.tmp 1) (.tmp 32) (by rfl) w1.heap.size 0 ([.int .i64 0, .int .i64 5, .slice none 0 0]).toArray (by rfl) (by rfl) hP.out.there hP.out.info (by simpa using hP.out.one) ?_
     generalize hWq : World.setCells _ _ _ _ = Wa
     obtain rfl : v1 = Wa := by rw [← hWq]; exact hP.out.eq
     clear hWq))
 clear hP
 have htx := Lib.hid (txs1 v1 tA)
 have hal : Below v1.heap.size v1 (v1.alloc (.cells #[.string tA] 9)) := (Below.refl _ v1).alloc (Nat.le_refl _) _
 refine (ents32_any _ 1 1 [tA] (by decide) (by decide) _ (HT'.out.below (hbw.out.trans (hal.mono hbw.out.size))) htx.out).mono ?_
 rintro e w2 ⟨a2, c2, rfl, hE, hb⟩
 have hst := hal.trans (hb.mono hal.size)
 clear htx hal
 replace hBs := Lib.hid (hBs.out.below hst hBs.out.lt)
 replace hbw := Lib.hid (hbw.out.trans (hst.mono hbw.out.size))
 have hE1 : Hid (ES (fun _ => True) w2 a2 1 c2 one) := ⟨hE.rs.imp (fun _ _ _ => trivial) fun e r ⟨h1, a, n, c, h2, h3⟩ => ⟨h1, a, n, c, h2, h3.imp fun _ _ _ => trivial⟩, hE.bd⟩
 clear hst hE hb
 go_wp2_with fail
 have htx := Lib.hid (txs2 w2 tA tB)
 have hal : Below w2.heap.size w2 (w2.alloc (.cells #[.string tA, .string tB] 9)) := (Below.refl _ w2).alloc (Nat.le_refl _) _
 refine (ents32_any _ 2 2 [tA, tB] (by decide) (by decide) _ (HT'.out.below (hbw.out.trans (hal.mono hbw.out.size))) htx.out).mono ?_
 rintro e w3 ⟨a3, c3, rfl, hE, hb⟩
 have hst := hal.trans (hb.mono hal.size)
 clear htx hal
 replace hBs := Lib.hid (hBs.out.below hst hBs.out.lt)
 replace hE1 := Lib.hid (hE1.out.below hst)
 replace hbw := Lib.hid (hbw.out.trans (hst.mono hbw.out.size))
 have hE2 : Hid (ES (fun _ => True) w3 a3 2 c3 two) := ⟨hE.rs.imp (fun _ _ _ => trivial) fun e r ⟨h1, a, n, c, h2, h3⟩ => ⟨h1, a, n, c, h2, h3.imp fun _ _ _ => trivial⟩, hE.bd⟩
 clear hst hE hb
 go_wp2_with fail
 have htx := Lib.hid (txs2 w3 tA tC)
 have hal : Below w3.heap.size w3 (w3.alloc (.cells #[.string tA, .string tC] 9)) := (Below.refl _ w3).alloc (Nat.le_refl _) _
 refine (ents32_any _ 2 2 [tA, tC] (by decide) (by decide) _ (HT'.out.below (hbw.out.trans (hal.mono hbw.out.size))) htx.out).mono ?_
 rintro e w4 ⟨a4, c4, rfl, hE, hb⟩
 have hst := hal.trans (hb.mono hal.size)
 clear htx hal
 replace hBs := Lib.hid (hBs.out.below hst hBs.out.lt)
 replace hE1 := Lib.hid (hE1.out.below hst)
 replace hE2 := Lib.hid (hE2.out.below hst)
 replace hbw := Lib.hid (hbw.out.trans (hst.mono hbw.out.size))
 have hE3 : Hid (ES (fun _ => True) w4 a4 2 c4 odd) := ⟨hE.rs.imp (fun _ _ _ => trivial) fun e r ⟨h1, a, n, c, h2, h3⟩ => ⟨h1, a, n, c, h2, h3.imp fun _ _ _ => trivial⟩, hE.bd⟩
 clear hst hE hb
 have s0 := hBs.out.at_ (i := 0) rfl
 have s1 := hBs.out.at_ (i := 1) rfl
 have s2 := hBs.out.at_ (i := 2) rfl
 go_wp2_with fail
 clear s0 s1 s2
 refine (sgN.out (fun _ => True) none 0 _ (HT'.out.below hbw.out) (show ES (fun _ => True) _ none 0 0 [] from ⟨.nil0 _ _ _, Nat.zero_le _⟩)).mono ?_
 rintro e w5 ⟨rfl, hst⟩
 replace hBs := Lib.hid (hBs.out.below hst hBs.out.lt)
 replace hE1 := Lib.hid (hE1.out.below hst)
 replace hE2 := Lib.hid (hE2.out.below hst)
 replace hE3 := Lib.hid (hE3.out.below hst)
 replace hbw := Lib.hid (hbw.out.trans (hst.mono hbw.out.size))
 clear hst
 obtain ⟨v5, hP⟩ : ∃ V, Hid (PutR 36 (w5.alloc (.cells ((hdC zeroH) : List Value).toArray 36)) V w5.heap.size 36 (hdC hN)) := put_row (Blk.new w5 36 ((hdC zeroH))) (by rw [hdC_len okN, hdC_len okH0]) (by rw [hdC_len okN]; exact sizeH) ((hdC_r okN).one)
 have hst := below_grown ((Below.refl _ w5).alloc (Nat.le_refl _) _) hP.out.grown (by simp) (Nat.le_refl _)
 replace hBs := Lib.hid (hBs.out.below hst hBs.out.lt)
 replace hE1 := Lib.hid (hE1.out.below hst)
 replace hE2 := Lib.hid (hE2.out.below hst)
 replace hE3 := Lib.hid (hE3.out.below hst)
 replace hbw := Lib.hid (hbw.out.trans (hst.mono hbw.out.size))
 clear hst
 have hBn := Lib.hid hP.out.blk
 have s0 := hBs.out.at_ (i := 0) rfl
 have s1 := hBs.out.at_ (i := 1) rfl
 have s2 := hBs.out.at_ (i := 2) rfl
 go_wp2_with (first
  | (refine wpList_store_mid (by rfl) 36 (.tmp 7) (.tmp 44) (by rfl) w5.heap.size 0 (hdC hN).toArray (by rfl) (by rfl) hP.out.there hP.out.info (by simpa using hP.out.one) ?_
     generalize hWq : World.setCells _ _ _ _ = Wa
     obtain rfl : v5 = Wa := by rw [← hWq]; exact hP.out.eq
     clear hWq))
 clear s0 s1 s2 hP
 refine (sgH.out (fun _ => True) a3 c3 _ (HT'.out.below hbw.out) hE2.out).mono ?_
 rintro e w6 ⟨rfl, hst⟩
 replace hBs := Lib.hid (hBs.out.below hst hBs.out.lt)
 replace hE1 := Lib.hid (hE1.out.below hst)
 replace hE2 := Lib.hid (hE2.out.below hst)
 replace hE3 := Lib.hid (hE3.out.below hst)
 replace hBn := Lib.hid (hBn.out.below hst hBn.out.lt)
 replace hbw := Lib.hid (hbw.out.trans (hst.mono hbw.out.size))
 clear hst
 obtain ⟨v6, hP⟩ : ∃ V, Hid (PutR 36 (w6.alloc (.cells ((hdC zeroH) : List Value).toArray 36)) V w6.heap.size 36 (hdC hH)) := put_row (Blk.new w6 36 ((hdC zeroH))) (by rw [hdC_len okH, hdC_len okH0]) (by rw [hdC_len okH]; exact sizeH) ((hdC_r okH).one)
 have hst := below_grown ((Below.refl _ w6).alloc (Nat.le_refl _) _) hP.out.grown (by simp) (Nat.le_refl _)
 replace hBs := Lib.hid (hBs.out.below hst hBs.out.lt)
 replace hE1 := Lib.hid (hE1.out.below hst)
 replace hE2 := Lib.hid (hE2.out.below hst)
 replace hE3 := Lib.hid (hE3.out.below hst)
 replace hBn := Lib.hid (hBn.out.below hst hBn.out.lt)
 replace hbw := Lib.hid (hbw.out.trans (hst.mono hbw.out.size))
 clear hst
 have hBh := Lib.hid hP.out.blk
 have s0 := hBs.out.at_ (i := 0) rfl
 have s1 := hBs.out.at_ (i := 1) rfl
 have s2 := hBs.out.at_ (i := 2) rfl
 go_wp2_with (first
  | (refine wpList_store_mid (by rfl) 36 (.tmp 9) (.tmp 50) (by rfl) w6.heap.size 0 (hdC hH).toArray (by rfl) (by rfl) hP.out.there hP.out.info (by simpa using hP.out.one) ?_
     generalize hWq : World.setCells _ _ _ _ = Wa
     obtain rfl : v6 = Wa := by rw [← hWq]; exact hP.out.eq
     clear hWq))
 clear s0 s1 s2 hP
 refine (sgG.out (fun _ => True) a4 c4 _ (HT'.out.below hbw.out) hE3.out).mono ?_
 rintro e w7 ⟨rfl, hst⟩
 replace hBs := Lib.hid (hBs.out.below hst hBs.out.lt)
 replace hE1 := Lib.hid (hE1.out.below hst)
 replace hE2 := Lib.hid (hE2.out.below hst)
 replace hE3 := Lib.hid (hE3.out.below hst)
 replace hBn := Lib.hid (hBn.out.below hst hBn.out.lt)
 replace hBh := Lib.hid (hBh.out.below hst hBh.out.lt)
 replace hbw := Lib.hid (hbw.out.trans (hst.mono hbw.out.size))
 clear hst
 obtain ⟨v7, hP⟩ : ∃ V, Hid (PutR 36 (w7.alloc (.cells ((hdC zeroH) : List Value).toArray 36)) V w7.heap.size 36 (hdC hG)) := put_row (Blk.new w7 36 ((hdC zeroH))) (by rw [hdC_len okG, hdC_len okH0]) (by rw [hdC_len okG]; exact sizeH) ((hdC_r okG).one)
 have hst := below_grown ((Below.refl _ w7).alloc (Nat.le_refl _) _) hP.out.grown (by simp) (Nat.le_refl _)
 replace hBs := Lib.hid (hBs.out.below hst hBs.out.lt)
 replace hE1 := Lib.hid (hE1.out.below hst)
 replace hE2 := Lib.hid (hE2.out.below hst)
 replace hE3 := Lib.hid (hE3.out.below hst)
 replace hBn := Lib.hid (hBn.out.below hst hBn.out.lt)
 replace hBh := Lib.hid (hBh.out.below hst hBh.out.lt)
 replace hbw := Lib.hid (hbw.out.trans (hst.mono hbw.out.size))
 clear hst
 have hBg := Lib.hid hP.out.blk
 have s0 := hBs.out.at_ (i := 0) rfl
 have s1 := hBs.out.at_ (i := 1) rfl
 have s2 := hBs.out.at_ (i := 2) rfl
 go_wp2_with (first
  | (refine wpList_store_mid (by rfl) 36 (.tmp 11) (.tmp 56) (by rfl) w7.heap.size 0 (hdC hG).toArray (by rfl) (by rfl) hP.out.there hP.out.info (by simpa using hP.out.one) ?_
     generalize hWq : World.setCells _ _ _ _ = Wa
     obtain rfl : v7 = Wa := by rw [← hWq]; exact hP.out.eq
     clear hWq))
 clear s0 s1 s2 hP
 refine (sgQ.out (fun _ => True) a2 c2 _ (HT'.out.below hbw.out) hE1.out).mono ?_
 rintro e w8 ⟨rfl, hst⟩
 replace hBs := Lib.hid (hBs.out.below hst hBs.out.lt)
 replace hE1 := Lib.hid (hE1.out.below hst)
 replace hE2 := Lib.hid (hE2.out.below hst)
 replace hE3 := Lib.hid (hE3.out.below hst)
 replace hBn := Lib.hid (hBn.out.below hst hBn.out.lt)
 replace hBh := Lib.hid (hBh.out.below hst hBh.out.lt)
 replace hBg := Lib.hid (hBg.out.below hst hBg.out.lt)
 replace hbw := Lib.hid (hbw.out.trans (hst.mono hbw.out.size))
 clear hst
 obtain ⟨v8, hP⟩ : ∃ V, Hid (PutR 36 (w8.alloc (.cells ((hdC zeroH) : List Value).toArray 36)) V w8.heap.size 36 (hdC hQ)) := put_row (Blk.new w8 36 ((hdC zeroH))) (by rw [hdC_len okQ, hdC_len okH0]) (by rw [hdC_len okQ]; exact sizeH) ((hdC_r okQ).one)
 have hst := below_grown ((Below.refl _ w8).alloc (Nat.le_refl _) _) hP.out.grown (by simp) (Nat.le_refl _)
 replace hBs := Lib.hid (hBs.out.below hst hBs.out.lt)
 replace hE1 := Lib.hid (hE1.out.below hst)
 replace hE2 := Lib.hid (hE2.out.below hst)
 replace hE3 := Lib.hid (hE3.out.below hst)
 replace hBn := Lib.hid (hBn.out.below hst hBn.out.lt)
 replace hBh := Lib.hid (hBh.out.below hst hBh.out.lt)
 replace hBg := Lib.hid (hBg.out.below hst hBg.out.lt)
 replace hbw := Lib.hid (hbw.out.trans (hst.mono hbw.out.size))
 clear hst
 have hBq := Lib.hid hP.out.blk
 have s0 := hBs.out.at_ (i := 0) rfl
 have s1 := hBs.out.at_ (i := 1) rfl
 have s2 := hBs.out.at_ (i := 2) rfl
 go_wp2_with (first
  | (refine wpList_store_mid (by rfl) 36 (.tmp 13) (.tmp 62) (by rfl) w8.heap.size 0 (hdC hQ).toArray (by rfl) (by rfl) hP.out.there hP.out.info (by simpa using hP.out.one) ?_
     generalize hWq : World.setCells _ _ _ _ = Wa
     obtain rfl : v8 = Wa := by rw [← hWq]; exact hP.out.eq
     clear hWq))
 clear s0 s1 s2 hP
 refine (viewNew_any 0 3 pq _).mono ?_
 rintro e w9 ⟨rfl, hst⟩
 replace hBs := Lib.hid (hBs.out.below hst hBs.out.lt)
 replace hE1 := Lib.hid (hE1.out.below hst)
 replace hE2 := Lib.hid (hE2.out.below hst)
 replace hE3 := Lib.hid (hE3.out.below hst)
 replace hBn := Lib.hid (hBn.out.below hst hBn.out.lt)
 replace hBh := Lib.hid (hBh.out.below hst hBh.out.lt)
 replace hBg := Lib.hid (hBg.out.below hst hBg.out.lt)
 replace hBq := Lib.hid (hBq.out.below hst hBq.out.lt)
 replace hbw := Lib.hid (hbw.out.trans (hst.mono hbw.out.size))
 clear hst
 obtain ⟨v9, hP⟩ : ∃ V, Hid (PutR 50 (w9.alloc (.cells (zrV : List Value).toArray 50)) V w9.heap.size 50 ([.int .i64 0, .int .i64 3, .int .i64 pq, .slice none 0 0, .slice none 0 0])) := put_row (Blk.new w9 50 (zrV)) rfl (sizeVw) (view_one _ _ _ _ _ _ _ _ _)
 have hst := below_grown ((Below.refl _ w9).alloc (Nat.le_refl _) _) hP.out.grown (by simp) (Nat.le_refl _)
 replace hBs := Lib.hid (hBs.out.below hst hBs.out.lt)
 replace hE1 := Lib.hid (hE1.out.below hst)
 replace hE2 := Lib.hid (hE2.out.below hst)
 replace hE3 := Lib.hid (hE3.out.below hst)
 replace hBn := Lib.hid (hBn.out.below hst hBn.out.lt)
 replace hBh := Lib.hid (hBh.out.below hst hBh.out.lt)
 replace hBg := Lib.hid (hBg.out.below hst hBg.out.lt)
 replace hBq := Lib.hid (hBq.out.below hst hBq.out.lt)
 replace hbw := Lib.hid (hbw.out.trans (hst.mono hbw.out.size))
 clear hst
 have hBv := Lib.hid hP.out.blk
 have hri := infoHd okN
 have hrg := Lib.hid hBn.out.range
 have b0 := hBv.out.at_ (i := 0) rfl
 have b1 := hBv.out.at_ (i := 1) rfl
 have b2 := hBv.out.at_ (i := 2) rfl
 have b3 := hBv.out.at_ (i := 3) rfl
 have b4 := hBv.out.at_ (i := 4) rfl
 go_wp2_with (first
  | (refine wpList_store_mid (by rfl) 50 (.tmp 15) (.tmp 65) (by rfl) w9.heap.size 0 ([.int .i64 0, .int .i64 3, .int .i64 pq, .slice none 0 0, .slice none 0 0]).toArray (by rfl) (by rfl) hP.out.there hP.out.info (by simpa using hP.out.one) ?_
     generalize hWq : World.setCells _ _ _ _ = Wa
     obtain rfl : v9 = Wa := by rw [← hWq]; exact hP.out.eq
     clear hWq)
      | (refine wpList_load_g (by rfl) 36 _ (by rfl) w5.heap.size 0 (by rfl) (hdC hN) _ hrg.out Tryz.underlying36 (by rfl) hri.out ?_))
 clear b0 b1 b2 b3 b4 hP hrg
 have hA1 := accept_any (newV 0 3 pq) none 0 0 none 0 0 none 0 0 [] hN okN _ (HT'.out.below hbw.out) (vm_new ⟨by decide, by decide⟩ ⟨by decide, by decide⟩ hpq64.out _) (show ES (fun _ => True) _ none 0 0 [] from ⟨.nil0 _ _ _, Nat.zero_le _⟩) (by decide)
 rw [Go.Vw.ex_none sN.out] at hA1
 refine hA1.mono ?_
 rintro e w10 ⟨xa, xn, xc, ya, yn, yc, fa, fn, fc, rfl, hVM, _, _, _, hst⟩
 obtain rfl : yn = 1 := hVM.hs.rs.len.symm
 clear hA1 hVM
 replace hBs := Lib.hid (hBs.out.below hst hBs.out.lt)
 replace hE1 := Lib.hid (hE1.out.below hst)
 replace hE2 := Lib.hid (hE2.out.below hst)
 replace hE3 := Lib.hid (hE3.out.below hst)
 replace hBn := Lib.hid (hBn.out.below hst hBn.out.lt)
 replace hBh := Lib.hid (hBh.out.below hst hBh.out.lt)
 replace hBg := Lib.hid (hBg.out.below hst hBg.out.lt)
 replace hBq := Lib.hid (hBq.out.below hst hBq.out.lt)
 replace hBv := Lib.hid (hBv.out.below hst hBv.out.lt)
 replace hbw := Lib.hid (hbw.out.trans (hst.mono hbw.out.size))
 clear hst
 have al : Below w10.heap.size w10 ((w10.alloc (.cells (zrV : List Value).toArray 50)).alloc (.cells (zrF : List Value).toArray 53)) := ((Below.refl _ w10).alloc (Nat.le_refl _) _).alloc (by simp) _
 have bV0 := (Blk.new w10 50 zrV).alloc (.cells (zrF : List Value).toArray 53)
 have bF0 := Blk.new (w10.alloc (.cells (zrV : List Value).toArray 50)) 53 zrF
 rw [World.size_alloc] at bF0
 obtain ⟨v10a, hPv⟩ : ∃ V, Hid (PutR 50 ((w10.alloc (.cells (zrV : List Value).toArray 50)).alloc (.cells (zrF : List Value).toArray 53)) V w10.heap.size 50 ([.int .i64 0, .int .i64 3, .int .i64 pq, .slice xa xn xc, .slice ya 1 yc])) := put_row bV0 rfl sizeVw (view_one _ _ _ _ _ _ _ _ _)
 have bF1 := bF0.grown hPv.out.grown (fun e => by injection e with e; omega)
 obtain ⟨v10, hPf⟩ : ∃ V, Hid (PutR 53 v10a V (w10.heap.size + 1) 53 (forkC zeroF fa fn fc)) := put_row bF1 (by rw [forkC_len okF0]; rfl) (by rw [forkC_len okF0]; exact sizeF) (forkC_one okF0 _ _ _)
 have hst := below_grown (below_grown al hPv.out.grown al.size (Nat.le_refl _)) hPf.out.grown (Nat.le_trans al.size hPv.out.grown.size) (Nat.le_succ _)
 have hBx := Lib.hid (hPv.out.blk.grown hPf.out.grown (fun e => by injection e with e; omega))
 have hBxf := Lib.hid hPf.out.blk
 clear al bV0 bF0 bF1
 replace hBs := Lib.hid (hBs.out.below hst hBs.out.lt)
 replace hE1 := Lib.hid (hE1.out.below hst)
 replace hE2 := Lib.hid (hE2.out.below hst)
 replace hE3 := Lib.hid (hE3.out.below hst)
 replace hBn := Lib.hid (hBn.out.below hst hBn.out.lt)
 replace hBh := Lib.hid (hBh.out.below hst hBh.out.lt)
 replace hBg := Lib.hid (hBg.out.below hst hBg.out.lt)
 replace hBq := Lib.hid (hBq.out.below hst hBq.out.lt)
 replace hBv := Lib.hid (hBv.out.below hst hBv.out.lt)
 replace hbw := Lib.hid (hbw.out.trans (hst.mono hbw.out.size))
 clear hst
 clear hBxf
 replace hri := infoHd okH
 have hrg := Lib.hid hBh.out.range
 have b0 := hBv.out.at_ (i := 0) rfl
 have b1 := hBv.out.at_ (i := 1) rfl
 have b2 := hBv.out.at_ (i := 2) rfl
 have b3 := hBv.out.at_ (i := 3) rfl
 have b4 := hBv.out.at_ (i := 4) rfl
 go_wp2_with (first
  | (refine wpList_store_mid (by rfl) 50 (.tmp 16) (.tmp 70) (by rfl) w10.heap.size 0 ([.int .i64 0, .int .i64 3, .int .i64 pq, .slice xa xn xc, .slice ya 1 yc]).toArray (by rfl) (by rfl) hPv.out.there hPv.out.info (by simpa using hPv.out.one) ?_
     generalize hWq : World.setCells _ _ _ _ = Wa
     obtain rfl : v10a = Wa := by rw [← hWq]; exact hPv.out.eq
     clear hWq)
      | (refine wpList_store_mid (by rfl) 53 (.tmp 17) (.tmp 71) (by rfl) (w10.heap.size + 1) 0 ((forkC zeroF fa fn fc)).toArray (by rfl) (by rfl) hPf.out.there hPf.out.info (by simpa using hPf.out.one) ?_
         generalize hWq : World.setCells _ _ _ _ = Wa
         obtain rfl : v10 = Wa := by rw [← hWq]; exact hPf.out.eq
         clear hWq)
      | (refine wpList_load_g (by rfl) 36 _ (by rfl) w6.heap.size 0 (by rfl) (hdC hH) _ hrg.out Tryz.underlying36 (by rfl) hri.out ?_))
 clear b0 b1 b2 b3 b4 hPv hPf hrg
 have hA2 := accept_any (newV 0 3 pq) none 0 0 none 0 0 a3 2 c3 two hH okH _ (HT'.out.below hbw.out) (vm_new ⟨by decide, by decide⟩ ⟨by decide, by decide⟩ hpq64.out _) hE2.out (by decide)
 rw [Go.Vw.ex_two sH.out] at hA2
 refine hA2.mono ?_
 rintro e w11 ⟨ja, jn, jc, ka, kn, kc, fa, fn, fc, rfl, hVM2, _, _, _, hst⟩
 obtain rfl : jn = 2 := hVM2.ds.len.symm
 obtain rfl : kn = 1 := hVM2.hs.rs.len.symm
 clear hA2
 replace hBs := Lib.hid (hBs.out.below hst hBs.out.lt)
 replace hE1 := Lib.hid (hE1.out.below hst)
 replace hE2 := Lib.hid (hE2.out.below hst)
 replace hE3 := Lib.hid (hE3.out.below hst)
 replace hBn := Lib.hid (hBn.out.below hst hBn.out.lt)
 replace hBh := Lib.hid (hBh.out.below hst hBh.out.lt)
 replace hBg := Lib.hid (hBg.out.below hst hBg.out.lt)
 replace hBq := Lib.hid (hBq.out.below hst hBq.out.lt)
 replace hBv := Lib.hid (hBv.out.below hst hBv.out.lt)
 replace hBx := Lib.hid (hBx.out.below hst hBx.out.lt)
 replace hbw := Lib.hid (hbw.out.trans (hst.mono hbw.out.size))
 clear hst
 have hMy := Lib.hid hVM2
 clear hVM2
 have al : Below w11.heap.size w11 ((w11.alloc (.cells (zrV : List Value).toArray 50)).alloc (.cells (zrF : List Value).toArray 53)) := ((Below.refl _ w11).alloc (Nat.le_refl _) _).alloc (by simp) _
 have bV0 := (Blk.new w11 50 zrV).alloc (.cells (zrF : List Value).toArray 53)
 have bF0 := Blk.new (w11.alloc (.cells (zrV : List Value).toArray 50)) 53 zrF
 rw [World.size_alloc] at bF0
 obtain ⟨v11a, hPv⟩ : ∃ V, Hid (PutR 50 ((w11.alloc (.cells (zrV : List Value).toArray 50)).alloc (.cells (zrF : List Value).toArray 53)) V w11.heap.size 50 ([.int .i64 0, .int .i64 3, .int .i64 pq, .slice ja 2 jc, .slice ka 1 kc])) := put_row bV0 rfl sizeVw (view_one _ _ _ _ _ _ _ _ _)
 have bF1 := bF0.grown hPv.out.grown (fun e => by injection e with e; omega)
 obtain ⟨v11, hPf⟩ : ∃ V, Hid (PutR 53 v11a V (w11.heap.size + 1) 53 (forkC zeroF fa fn fc)) := put_row bF1 (by rw [forkC_len okF0]; rfl) (by rw [forkC_len okF0]; exact sizeF) (forkC_one okF0 _ _ _)
 have hst := below_grown (below_grown al hPv.out.grown al.size (Nat.le_refl _)) hPf.out.grown (Nat.le_trans al.size hPv.out.grown.size) (Nat.le_succ _)
 have hBy := Lib.hid (hPv.out.blk.grown hPf.out.grown (fun e => by injection e with e; omega))
 have hByf := Lib.hid hPf.out.blk
 clear al bV0 bF0 bF1
 replace hBs := Lib.hid (hBs.out.below hst hBs.out.lt)
 replace hE1 := Lib.hid (hE1.out.below hst)
 replace hE2 := Lib.hid (hE2.out.below hst)
 replace hE3 := Lib.hid (hE3.out.below hst)
 replace hBn := Lib.hid (hBn.out.below hst hBn.out.lt)
 replace hBh := Lib.hid (hBh.out.below hst hBh.out.lt)
 replace hBg := Lib.hid (hBg.out.below hst hBg.out.lt)
 replace hBq := Lib.hid (hBq.out.below hst hBq.out.lt)
 replace hBv := Lib.hid (hBv.out.below hst hBv.out.lt)
 replace hBx := Lib.hid (hBx.out.below hst hBx.out.lt)
 replace hMy := Lib.hid (hMy.out.below hst)
 replace hbw := Lib.hid (hbw.out.trans (hst.mono hbw.out.size))
 clear hst
 clear hByf
 replace hri := infoHd okG
 have hrg := Lib.hid hBg.out.range
 have b0 := hBy.out.at_ (i := 0) rfl
 have b1 := hBy.out.at_ (i := 1) rfl
 have b2 := hBy.out.at_ (i := 2) rfl
 have b3 := hBy.out.at_ (i := 3) rfl
 have b4 := hBy.out.at_ (i := 4) rfl
 go_wp2_with (first
  | (refine wpList_store_mid (by rfl) 50 (.tmp 19) (.tmp 78) (by rfl) w11.heap.size 0 ([.int .i64 0, .int .i64 3, .int .i64 pq, .slice ja 2 jc, .slice ka 1 kc]).toArray (by rfl) (by rfl) hPv.out.there hPv.out.info (by simpa using hPv.out.one) ?_
     generalize hWq : World.setCells _ _ _ _ = Wa
     obtain rfl : v11a = Wa := by rw [← hWq]; exact hPv.out.eq
     clear hWq)
      | (refine wpList_store_mid (by rfl) 53 (.tmp 20) (.tmp 79) (by rfl) (w11.heap.size + 1) 0 ((forkC zeroF fa fn fc)).toArray (by rfl) (by rfl) hPf.out.there hPf.out.info (by simpa using hPf.out.one) ?_
         generalize hWq : World.setCells _ _ _ _ = Wa
         obtain rfl : v11 = Wa := by rw [← hWq]; exact hPf.out.eq
         clear hWq)
      | (refine wpList_load_g (by rfl) 36 _ (by rfl) w7.heap.size 0 (by rfl) (hdC hG) _ hrg.out Tryz.underlying36 (by rfl) hri.out ?_))
 clear b0 b1 b2 b3 b4 hPv hPf hrg
 obtain ⟨fq, efq, pfq⟩ := Go.Vw.ex_odd sH.out sG.out
 have hA3 := accept_any (vY pq hH) ja 2 jc ka 1 kc a4 2 c4 odd hG okG _ (HT'.out.below hbw.out) hMy.out hE3.out (by decide)
 rw [efq] at hA3
 refine hA3.mono ?_
 rintro e w12 ⟨za, zn, zc, ua, un, uc, pa, pn, pc, rfl, hVM3, okf, hdf, pn63, hst⟩
 obtain rfl : zn = 2 := hVM3.ds.len.symm
 obtain rfl : un = 1 := hVM3.hs.rs.len.symm
 clear hA3 efq
 have pfq' := Lib.hid pfq
 have okf' := Lib.hid okf
 have pn63' := Lib.hid pn63
 clear pfq okf pn63
 replace hBs := Lib.hid (hBs.out.below hst hBs.out.lt)
 replace hE1 := Lib.hid (hE1.out.below hst)
 replace hE2 := Lib.hid (hE2.out.below hst)
 replace hE3 := Lib.hid (hE3.out.below hst)
 replace hBn := Lib.hid (hBn.out.below hst hBn.out.lt)
 replace hBh := Lib.hid (hBh.out.below hst hBh.out.lt)
 replace hBg := Lib.hid (hBg.out.below hst hBg.out.lt)
 replace hBq := Lib.hid (hBq.out.below hst hBq.out.lt)
 replace hBv := Lib.hid (hBv.out.below hst hBv.out.lt)
 replace hBx := Lib.hid (hBx.out.below hst hBx.out.lt)
 replace hMy := Lib.hid (hMy.out.below hst)
 replace hBy := Lib.hid (hBy.out.below hst hBy.out.lt)
 replace hbw := Lib.hid (hbw.out.trans (hst.mono hbw.out.size))
 clear hst
 have hMz := Lib.hid hVM3
 clear hVM3
 have hDp := Lib.hid hdf
 clear hdf
 have al : Below w12.heap.size w12 ((w12.alloc (.cells (zrV : List Value).toArray 50)).alloc (.cells (zrF : List Value).toArray 53)) := ((Below.refl _ w12).alloc (Nat.le_refl _) _).alloc (by simp) _
 have bV0 := (Blk.new w12 50 zrV).alloc (.cells (zrF : List Value).toArray 53)
 have bF0 := Blk.new (w12.alloc (.cells (zrV : List Value).toArray 50)) 53 zrF
 rw [World.size_alloc] at bF0
 obtain ⟨v12a, hPv⟩ : ∃ V, Hid (PutR 50 ((w12.alloc (.cells (zrV : List Value).toArray 50)).alloc (.cells (zrF : List Value).toArray 53)) V w12.heap.size 50 ([.int .i64 0, .int .i64 3, .int .i64 pq, .slice za 2 zc, .slice ua 1 uc])) := put_row bV0 rfl sizeVw (view_one _ _ _ _ _ _ _ _ _)
 have bF1 := bF0.grown hPv.out.grown (fun e => by injection e with e; omega)
 obtain ⟨v12, hPf⟩ : ∃ V, Hid (PutR 53 v12a V (w12.heap.size + 1) 53 (forkC fq pa pn pc)) := put_row bF1 (by rw [forkC_len okf'.out]; rfl) (by rw [forkC_len okf'.out]; exact sizeF) (forkC_one okf'.out _ _ _)
 have hst := below_grown (below_grown al hPv.out.grown al.size (Nat.le_refl _)) hPf.out.grown (Nat.le_trans al.size hPv.out.grown.size) (Nat.le_succ _)
 have hBz := Lib.hid (hPv.out.blk.grown hPf.out.grown (fun e => by injection e with e; omega))
 have hBp := Lib.hid hPf.out.blk
 clear al bV0 bF0 bF1
 replace hBs := Lib.hid (hBs.out.below hst hBs.out.lt)
 replace hE1 := Lib.hid (hE1.out.below hst)
 replace hE2 := Lib.hid (hE2.out.below hst)
 replace hE3 := Lib.hid (hE3.out.below hst)
 replace hBn := Lib.hid (hBn.out.below hst hBn.out.lt)
 replace hBh := Lib.hid (hBh.out.below hst hBh.out.lt)
 replace hBg := Lib.hid (hBg.out.below hst hBg.out.lt)
 replace hBq := Lib.hid (hBq.out.below hst hBq.out.lt)
 replace hBv := Lib.hid (hBv.out.below hst hBv.out.lt)
 replace hBx := Lib.hid (hBx.out.below hst hBx.out.lt)
 replace hMy := Lib.hid (hMy.out.below hst)
 replace hBy := Lib.hid (hBy.out.below hst hBy.out.lt)
 replace hMz := Lib.hid (hMz.out.below hst)
 replace hDp := Lib.hid (hDp.out.below hst)
 replace hbw := Lib.hid (hbw.out.trans (hst.mono hbw.out.size))
 clear hst
 have b0 := hBv.out.at_ (i := 0) rfl
 have b1 := hBv.out.at_ (i := 1) rfl
 have b2 := hBv.out.at_ (i := 2) rfl
 have b3 := hBv.out.at_ (i := 3) rfl
 have b4 := hBv.out.at_ (i := 4) rfl
 go_wp2_with (first
  | (refine wpList_store_mid (by rfl) 50 (.tmp 22) (.tmp 86) (by rfl) w12.heap.size 0 ([.int .i64 0, .int .i64 3, .int .i64 pq, .slice za 2 zc, .slice ua 1 uc]).toArray (by rfl) (by rfl) hPv.out.there hPv.out.info (by simpa using hPv.out.one) ?_
     generalize hWq : World.setCells _ _ _ _ = Wa
     obtain rfl : v12a = Wa := by rw [← hWq]; exact hPv.out.eq
     clear hWq)
      | (refine wpList_store_mid (by rfl) 53 (.tmp 23) (.tmp 87) (by rfl) (w12.heap.size + 1) 0 ((forkC fq pa pn pc)).toArray (by rfl) (by rfl) hPf.out.there hPf.out.info (by simpa using hPf.out.one) ?_
         generalize hWq : World.setCells _ _ _ _ = Wa
         obtain rfl : v12 = Wa := by rw [← hWq]; exact hPf.out.eq
         clear hWq))
 clear b0 b1 b2 b3 b4 hPv hPf
 have hA4 := accept_any (newV 0 3 pq) none 0 0 none 0 0 none 0 0 [] zeroH okH0 _ (HT'.out.below hbw.out) (vm_new ⟨by decide, by decide⟩ ⟨by decide, by decide⟩ hpq64.out _) (show ES (fun _ => True) _ none 0 0 [] from ⟨.nil0 _ _ _, Nat.zero_le _⟩) (by decide)
 rw [Go.Vw.ex_zero] at hA4
 refine hA4.mono ?_
 rintro e w13 ⟨oa, on, oc, qa, qn, qc, fa, fn, fc, rfl, _, _, _, _, hst⟩
 clear hA4
 replace hBs := Lib.hid (hBs.out.below hst hBs.out.lt)
 replace hE1 := Lib.hid (hE1.out.below hst)
 replace hE2 := Lib.hid (hE2.out.below hst)
 replace hE3 := Lib.hid (hE3.out.below hst)
 replace hBn := Lib.hid (hBn.out.below hst hBn.out.lt)
 replace hBh := Lib.hid (hBh.out.below hst hBh.out.lt)
 replace hBg := Lib.hid (hBg.out.below hst hBg.out.lt)
 replace hBq := Lib.hid (hBq.out.below hst hBq.out.lt)
 replace hBv := Lib.hid (hBv.out.below hst hBv.out.lt)
 replace hBx := Lib.hid (hBx.out.below hst hBx.out.lt)
 replace hMy := Lib.hid (hMy.out.below hst)
 replace hBy := Lib.hid (hBy.out.below hst hBy.out.lt)
 replace hMz := Lib.hid (hMz.out.below hst)
 replace hDp := Lib.hid (hDp.out.below hst)
 replace hBz := Lib.hid (hBz.out.below hst hBz.out.lt)
 replace hBp := Lib.hid (hBp.out.below hst hBp.out.lt)
 replace hbw := Lib.hid (hbw.out.trans (hst.mono hbw.out.size))
 clear hst
 have al : Below w13.heap.size w13 ((w13.alloc (.cells (zrV : List Value).toArray 50)).alloc (.cells (zrF : List Value).toArray 53)) := ((Below.refl _ w13).alloc (Nat.le_refl _) _).alloc (by simp) _
 have bV0 := (Blk.new w13 50 zrV).alloc (.cells (zrF : List Value).toArray 53)
 have bF0 := Blk.new (w13.alloc (.cells (zrV : List Value).toArray 50)) 53 zrF
 rw [World.size_alloc] at bF0
 obtain ⟨v13a, hPv⟩ : ∃ V, Hid (PutR 50 ((w13.alloc (.cells (zrV : List Value).toArray 50)).alloc (.cells (zrF : List Value).toArray 53)) V w13.heap.size 50 ([.int .i64 0, .int .i64 0, .int .i64 0, .slice oa on oc, .slice qa qn qc])) := put_row bV0 rfl sizeVw (view_one _ _ _ _ _ _ _ _ _)
 have bF1 := bF0.grown hPv.out.grown (fun e => by injection e with e; omega)
 obtain ⟨v13, hPf⟩ : ∃ V, Hid (PutR 53 v13a V (w13.heap.size + 1) 53 (forkC zeroF fa fn fc)) := put_row bF1 (by rw [forkC_len okF0]; rfl) (by rw [forkC_len okF0]; exact sizeF) (forkC_one okF0 _ _ _)
 have hst := below_grown (below_grown al hPv.out.grown al.size (Nat.le_refl _)) hPf.out.grown (Nat.le_trans al.size hPv.out.grown.size) (Nat.le_succ _)
 have hBo := Lib.hid (hPv.out.blk.grown hPf.out.grown (fun e => by injection e with e; omega))
 have hBof := Lib.hid hPf.out.blk
 clear al bV0 bF0 bF1
 replace hBs := Lib.hid (hBs.out.below hst hBs.out.lt)
 replace hE1 := Lib.hid (hE1.out.below hst)
 replace hE2 := Lib.hid (hE2.out.below hst)
 replace hE3 := Lib.hid (hE3.out.below hst)
 replace hBn := Lib.hid (hBn.out.below hst hBn.out.lt)
 replace hBh := Lib.hid (hBh.out.below hst hBh.out.lt)
 replace hBg := Lib.hid (hBg.out.below hst hBg.out.lt)
 replace hBq := Lib.hid (hBq.out.below hst hBq.out.lt)
 replace hBv := Lib.hid (hBv.out.below hst hBv.out.lt)
 replace hBx := Lib.hid (hBx.out.below hst hBx.out.lt)
 replace hMy := Lib.hid (hMy.out.below hst)
 replace hBy := Lib.hid (hBy.out.below hst hBy.out.lt)
 replace hMz := Lib.hid (hMz.out.below hst)
 replace hDp := Lib.hid (hDp.out.below hst)
 replace hBz := Lib.hid (hBz.out.below hst hBz.out.lt)
 replace hBp := Lib.hid (hBp.out.below hst hBp.out.lt)
 replace hbw := Lib.hid (hbw.out.trans (hst.mono hbw.out.size))
 clear hst
 clear hBof
 have b0 := hBy.out.at_ (i := 0) rfl
 have b1 := hBy.out.at_ (i := 1) rfl
 have b2 := hBy.out.at_ (i := 2) rfl
 have b3 := hBy.out.at_ (i := 3) rfl
 have b4 := hBy.out.at_ (i := 4) rfl
 go_wp2_with (first
  | (refine wpList_store_mid (by rfl) 50 (.tmp 25) (.tmp 93) (by rfl) w13.heap.size 0 ([.int .i64 0, .int .i64 0, .int .i64 0, .slice oa on oc, .slice qa qn qc]).toArray (by rfl) (by rfl) hPv.out.there hPv.out.info (by simpa using hPv.out.one) ?_
     generalize hWq : World.setCells _ _ _ _ = Wa
     obtain rfl : v13a = Wa := by rw [← hWq]; exact hPv.out.eq
     clear hWq)
      | (refine wpList_store_mid (by rfl) 53 (.tmp 26) (.tmp 94) (by rfl) (w13.heap.size + 1) 0 ((forkC zeroF fa fn fc)).toArray (by rfl) (by rfl) hPf.out.there hPf.out.info (by simpa using hPf.out.one) ?_
         generalize hWq : World.setCells _ _ _ _ = Wa
         obtain rfl : v13 = Wa := by rw [← hWq]; exact hPf.out.eq
         clear hWq))
 clear b0 b1 b2 b3 b4 hPv hPf
 clear hBo
 obtain ⟨fd, efd⟩ := Go.Vw.ex_cmp sH.out
 have hC := compare_any (vY pq hH) ja 2 jc ka 1 kc (vY pq hH) ja 2 jc ka 1 kc _ (HT'.out.below hbw.out) hMy.out hMy.out
 rw [efd] at hC
 refine hC.mono ?_
 rintro e w14 ⟨ca, cn, cc, rfl, okc, _, _, hst⟩
 have okc' := Lib.hid okc
 clear hC efd okc
 replace hBs := Lib.hid (hBs.out.below hst hBs.out.lt)
 replace hE1 := Lib.hid (hE1.out.below hst)
 replace hE2 := Lib.hid (hE2.out.below hst)
 replace hE3 := Lib.hid (hE3.out.below hst)
 replace hBn := Lib.hid (hBn.out.below hst hBn.out.lt)
 replace hBh := Lib.hid (hBh.out.below hst hBh.out.lt)
 replace hBg := Lib.hid (hBg.out.below hst hBg.out.lt)
 replace hBq := Lib.hid (hBq.out.below hst hBq.out.lt)
 replace hBv := Lib.hid (hBv.out.below hst hBv.out.lt)
 replace hBx := Lib.hid (hBx.out.below hst hBx.out.lt)
 replace hMy := Lib.hid (hMy.out.below hst)
 replace hBy := Lib.hid (hBy.out.below hst hBy.out.lt)
 replace hMz := Lib.hid (hMz.out.below hst)
 replace hDp := Lib.hid (hDp.out.below hst)
 replace hBz := Lib.hid (hBz.out.below hst hBz.out.lt)
 replace hBp := Lib.hid (hBp.out.below hst hBp.out.lt)
 replace hbw := Lib.hid (hbw.out.trans (hst.mono hbw.out.size))
 clear hst
 obtain ⟨v14, hP⟩ : ∃ V, Hid (PutR 53 (w14.alloc (.cells (zrF : List Value).toArray 53)) V w14.heap.size 53 (forkC fd ca cn cc)) := put_row (Blk.new w14 53 (zrF)) (by rw [forkC_len okc'.out]; rfl) (by rw [forkC_len okc'.out]; exact sizeF) (forkC_one okc'.out _ _ _)
 have hst := below_grown ((Below.refl _ w14).alloc (Nat.le_refl _) _) hP.out.grown (by simp) (Nat.le_refl _)
 replace hBs := Lib.hid (hBs.out.below hst hBs.out.lt)
 replace hE1 := Lib.hid (hE1.out.below hst)
 replace hE2 := Lib.hid (hE2.out.below hst)
 replace hE3 := Lib.hid (hE3.out.below hst)
 replace hBn := Lib.hid (hBn.out.below hst hBn.out.lt)
 replace hBh := Lib.hid (hBh.out.below hst hBh.out.lt)
 replace hBg := Lib.hid (hBg.out.below hst hBg.out.lt)
 replace hBq := Lib.hid (hBq.out.below hst hBq.out.lt)
 replace hBv := Lib.hid (hBv.out.below hst hBv.out.lt)
 replace hBx := Lib.hid (hBx.out.below hst hBx.out.lt)
 replace hMy := Lib.hid (hMy.out.below hst)
 replace hBy := Lib.hid (hBy.out.below hst hBy.out.lt)
 replace hMz := Lib.hid (hMz.out.below hst)
 replace hDp := Lib.hid (hDp.out.below hst)
 replace hBz := Lib.hid (hBz.out.below hst hBz.out.lt)
 replace hBp := Lib.hid (hBp.out.below hst hBp.out.lt)
 replace hbw := Lib.hid (hbw.out.trans (hst.mono hbw.out.size))
 clear hst
 have hBc := Lib.hid hP.out.blk
 clear hBc
 have x4 := hBx.out.at_ (i := 4) rfl
 have y0 := hBy.out.at_ (i := 0) rfl
 have y1 := hBy.out.at_ (i := 1) rfl
 have y2 := hBy.out.at_ (i := 2) rfl
 have y3 := hBy.out.at_ (i := 3) rfl
 have y4 := hBy.out.at_ (i := 4) rfl
 have z0 := hBz.out.at_ (i := 0) rfl
 have z1 := hBz.out.at_ (i := 1) rfl
 have z2 := hBz.out.at_ (i := 2) rfl
 have z3 := hBz.out.at_ (i := 3) rfl
 have z4 := hBz.out.at_ (i := 4) rfl
 go_wp2_with (first
  | (refine wpList_store_mid (by rfl) 53 (.tmp 28) (.tmp 100) (by rfl) w14.heap.size 0 ((forkC fd ca cn cc)).toArray (by rfl) (by rfl) hP.out.there hP.out.info (by simpa using hP.out.one) ?_
     generalize hWq : World.setCells _ _ _ _ = Wa
     obtain rfl : v14 = Wa := by rw [← hWq]; exact hP.out.eq
     clear hWq))
 clear x4 y0 y1 y2 y3 y4 z0 z1 z2 z3 z4 hP
 refine (sameV_any (vY pq hH) za 2 zc ua 1 uc ja jc ka kc _ hMz.out hMy.out).mono ?_
 rintro e w15 ⟨rfl, hst⟩
 replace hBs := Lib.hid (hBs.out.below hst hBs.out.lt)
 replace hE1 := Lib.hid (hE1.out.below hst)
 replace hE2 := Lib.hid (hE2.out.below hst)
 replace hE3 := Lib.hid (hE3.out.below hst)
 replace hBn := Lib.hid (hBn.out.below hst hBn.out.lt)
 replace hBh := Lib.hid (hBh.out.below hst hBh.out.lt)
 replace hBg := Lib.hid (hBg.out.below hst hBg.out.lt)
 replace hBq := Lib.hid (hBq.out.below hst hBq.out.lt)
 replace hBv := Lib.hid (hBv.out.below hst hBv.out.lt)
 replace hBx := Lib.hid (hBx.out.below hst hBx.out.lt)
 replace hMy := Lib.hid (hMy.out.below hst)
 replace hBy := Lib.hid (hBy.out.below hst hBy.out.lt)
 replace hMz := Lib.hid (hMz.out.below hst)
 replace hDp := Lib.hid (hDp.out.below hst)
 replace hBz := Lib.hid (hBz.out.below hst hBz.out.lt)
 replace hBp := Lib.hid (hBp.out.below hst hBp.out.lt)
 replace hbw := Lib.hid (hbw.out.trans (hst.mono hbw.out.size))
 clear hst
 go_upto_region 15 with fail
 have hS0 : SnS w (w12.heap.size + 1) w8.heap.size w6.heap.size fq pa pn pc hQ hH a3 c3 w15 := ⟨hBp.out, hBq.out, hBh.out, hDp.out, hE2.out, hbw.out⟩
 clear hBs hE1 hE2 hE3 hBn hBh hBg hBq hBv hBx hMy hBy hMz hDp hBz hBp hbw
 refine wp_region_held_drew (S := fun wz => SnS w (w12.heap.size + 1) w8.heap.size w6.heap.size fq pa pn pc hQ hH a3 c3 wz) (by kernel_rfl) (hS0.below (Below.refl _ w15).drew) (fun hHeld => ?_)
 refine tO 0 rfl (fun K hK => ?_)
 go_simp
 go_at_call 24
 refine (viewNew_any 0 0 0 _).mono ?_
 rintro e wq ⟨rfl, hbq⟩
 refine hK.out _ _ (hHeld.below hbq) (fun hHeld => ?_)
 clear hbq
 clear hK K
 try simp only [Act.put, sA, s0, s1]
 refine tO 1 rfl (fun K hK => ?_)
 go_simp
 go_at_call 26
 have hck := viewCheck_any (newV 0 0 0) none 0 0 none 0 0 _ (HT'.out.below hHeld.bel) (vm_new ⟨by decide, by decide⟩ ⟨by decide, by decide⟩ ⟨by decide, by decide⟩ _)
 rw [ck_new0] at hck
 refine hck.mono ?_
 rintro e wq ⟨rfl, hbq⟩
 clear hck
 refine hK.out _ _ (hHeld.below hbq) (fun hHeld => ?_)
 clear hbq
 clear hK K
 try simp only [Act.put, sA, s0, s1]
 refine tQ 2 rfl hHeld ?_
 refine tQ 3 rfl hHeld ?_
 refine tO 4 rfl (fun K hK => ?_)
 go_simp
 go_at_call 24
 refine (viewNew_any 4 0 0 _).mono ?_
 rintro e wq ⟨rfl, hbq⟩
 refine hK.out _ _ (hHeld.below hbq) (fun hHeld => ?_)
 clear hbq
 clear hK K
 try simp only [Act.put, sA, s0, s1]
 refine tO 5 rfl (fun K hK => ?_)
 go_simp
 go_at_call 26
 have hck := viewCheck_any (newV 4 0 0) none 0 0 none 0 0 _ (HT'.out.below hHeld.bel) (vm_new ⟨by decide, by decide⟩ ⟨by decide, by decide⟩ ⟨by decide, by decide⟩ _)
 rw [ck_new4] at hck
 refine hck.mono ?_
 rintro e wq ⟨rfl, hbq⟩
 clear hck
 refine hK.out _ _ (hHeld.below hbq) (fun hHeld => ?_)
 clear hbq
 clear hK K
 try simp only [Act.put, sA, s0, s1]
 refine tQ 6 rfl hHeld ?_
 refine tQ 7 rfl hHeld ?_
 refine tQ 8 rfl hHeld ?_
 refine tQ 9 rfl hHeld ?_
 refine tG 10 rfl (yieldsIf_load_mid (by rfl) _ _ rfl (w12.heap.size + 1) 0 rfl (forkC fq pa pn pc) _ (fun wz h => h.bP.range) Tryz.underlying53 rfl ((infoF okf'.out pa pn pc).out)) hHeld ?_
 refine tO 11 rfl (fun K hK => ?_)
 go_simp
 go_at_call 32
 have hck := prove_any pq hpq64.out fq okf'.out pa pn pc _ (HT'.out.below hHeld.bel) hHeld.ds pn63'.out
 rw [pfq'.out] at hck
 refine hck.mono ?_
 rintro e wq ⟨rfl, hbq⟩
 clear hck
 refine hK.out _ _ (hHeld.below hbq) (fun hHeld => ?_)
 clear hbq
 clear hK K
 try simp only [Act.put, sA, s0, s1]
 refine tQ 12 rfl hHeld ?_
 refine tQ 13 rfl hHeld ?_
 refine tQ 14 rfl hHeld ?_
 refine tG 15 rfl (hold_build (by rfl) _ _ rfl #[] (by simp only [List.map_toArray, List.map_nil]) fork_zero) hHeld ?_
 refine tO 16 rfl (fun K hK => ?_)
 go_simp
 go_at_call 32
 have hck := prove_any 0 ⟨by decide, by decide⟩ zeroF okF0 none 0 0 _ (HT'.out.below hHeld.bel) (ds_nil _) (by decide)
 rw [Go.Vw.ex_zerof] at hck
 refine hck.mono ?_
 rintro e wq ⟨rfl, hbq⟩
 clear hck
 refine hK.out _ _ (hHeld.below hbq) (fun hHeld => ?_)
 clear hbq
 clear hK K
 try simp only [Act.put, sA, s0, s1]
 refine tQ 17 rfl hHeld ?_
 refine tQ 18 rfl hHeld ?_
 refine tQ 19 rfl hHeld ?_
 refine tQ 20 rfl hHeld ?_
 refine tG 21 rfl (yieldsIf_load_mid (by rfl) _ _ rfl w8.heap.size 0 rfl (hdC hQ) _ (fun wz h => h.bQ.range) Tryz.underlying36 rfl ((infoHd okQ).out)) hHeld ?_
 refine tG 22 rfl (yieldsIf_load_mid (by rfl) _ _ rfl w6.heap.size 0 rfl (hdC hH) _ (fun wz h => h.bH.range) Tryz.underlying36 rfl ((infoHd okH).out)) hHeld ?_
 refine tQ 23 rfl hHeld ?_
 refine tO 24 rfl (fun K hK => ?_)
 go_simp
 go_at_call 48
 refine (digs32_any (fun _ => True) a3 2 c3 two _ hHeld.es).mono ?_
 rintro e wq ⟨ta, tc, rfl, htd, hbq⟩
 have htd' := Lib.hid htd
 clear htd
 have hHd : SnS w (w12.heap.size + 1) w8.heap.size w6.heap.size fq pa pn pc hQ hH a3 c3 wq ∧ DS wq ta 2 tc (two.map (·.dig)) := ⟨hHeld.below hbq, htd'.out⟩
 refine hK.out _ _ (hHeld.below hbq) (fun hHeld => ?_)
 clear hbq
 clear hK K
 try simp only [Act.put, sA, s0, s1]
 refine tG 25 rfl (hold_build (by rfl) _ _ rfl #[(0, .agg (hdC hQ).toArray), (1, .agg (hdC hH).toArray), (2, .slice ta 2 tc)] (by simp only [List.map_toArray, List.map_cons, List.map_nil]; rfl) (fun W => fork_build okQ okH (two.map (·.dig)) ta 2 tc W)) hHeld ?_
 refine tO 26 rfl (fun K hK => ?_)
 go_simp
 go_at_call 32
 have hck := prove_any pq hpq64.out (⟨hQ, hH, two.map (fun x : Ent => x.dig)⟩ : Fk) ⟨okQ, okH⟩ ta 2 tc _ (HT'.out.below hHeld.bel) htd'.out (by decide)
 rw [Go.Vw.ex_own sH.out sQ.out] at hck
 refine hck.mono ?_
 rintro e wq2 ⟨rfl, hbq⟩
 clear hck
 refine hK.out _ _ (hHeld.below hbq) (fun hHeld => ?_)
 clear hbq
 clear hK K
 try simp only [Act.put, sA, s0, s1]
 refine tQ 27 rfl hHeld ?_
 refine tQ 28 rfl hHeld ?_
 refine tG 29 (v := ?_) rfl (Or.inl ⟨by rfl, ?_⟩) hHeld ?_
 rotate_left
 · intro wz hSw
   go_simp
   all_goals (with_reducible rfl)
 try simp only [Act.put, List.setIfInBounds_toArray, List.set_cons_zero]
 refine wpAnyH_done (by kernel_rfl) ?_ _
 go_wp2_with fail
 exact hfin.out _ hHeld.bel
end Go.Proofs.YtnonfdcbnkdmcaaGreatDoor
