/- LiarForked: the walk -/
import Derived.Test.YtiionehcmoginaaGreatDoorLiC
import Derived.Test.YtiionehcmoginaaGreatDoorCards
import Derived.Test.YtiionehcmoginaaGreatDoorTie
import Derived.SevenTiedAt
import Derived.Deep.DeepHandedRow
import Derived.Deep.DeepWitnessRowRef
namespace Go.Proofs.YtiionehcmoginaaGreatDoor
open Go.RowKit Go.Mem Go.Shelf
open Go.Sto (Ent St Rul forkE BdL frk)
open Go.Vw (Hd Sg eqH)
theorem RS_take2 {α : Type} {s : Nat} {R : World → α → List Value → Prop} {K : Nat → Prop} {w : World} {a : Option Addr} {n c : Nat} {l : List α} (h : RS s R K w a n c l) {k : Nat} (hk : k ≤ n) : RS s R K w a k c (l.take k) := by
 obtain ⟨rows, hr, ho⟩ := h.rows
 refine ⟨by rw [List.length_take, h.len]; omega, fun hn => h.sep (by omega), rows.take k, ⟨?_, by have := h.le; omega, h.max, fun e => by have := h.nil' e; omega, fun hn => ?_⟩, ho.take k⟩
 · rw [flat_len (ho.take k).size, List.length_take, ho.len, h.len, Nat.min_eq_left hk]
 · obtain ⟨b, off, e, hb, hc⟩ := hr.cells (by omega)
   refine ⟨b, off, e, hb, fun j u hj => hc j u ?_⟩
   have e2 : rows.flatten = (rows.take k).flatten ++ (rows.drop k).flatten := by rw [← List.flatten_append, List.take_append_drop]
   rw [e2, List.getElem?_append_left (List.getElem?_eq_some_iff.1 hj).1]
   exact hj
theorem lelemE2 : Tryz.prog.underlying 30 = some (.slice (Tryz.prog.elem 30)) := by kernel_rfl
theorem lsizeOfE2 (W : World) : (sizeOf (Tryz.prog.elem 30)).run Tryz.prog W = .ok 35 W := by kernel_rfl
theorem ltakeE2 {K : Nat → Prop} {w : World} {a : Option Addr} {n c k : Nat} {l : List Ent} (h : ES K w a n c l) (hk : k ≤ n) : ES K w a k c (l.take k) := ⟨RS_take2 h.rs hk, by have := h.bd; omega⟩
theorem lslice_mid {K : Nat → Prop} {w : World} {a : Option Addr} {n c i : Nat} {l : List Ent} {e : Ent} (h : ES K w a n c l) (hi : l[i]? = some e) :
 ∃ a', (∀ W, (Instr.sliceAt 30 (.slice a n c) (some (.int .i64 (i : Int))) (some (.int .i64 ((i : Int) + 1))) none).run Tryz.prog W = .ok (.slice a' 1 (c - i)) W) ∧ ES K w a' 1 (c - i) [e] := by
 have hle := h.rs.le
 have hin : i < n := by have := (List.getElem?_eq_some_iff.1 hi).1; rw [h.rs.len] at this; exact this
 obtain ⟨b, off, _, rfl, _⟩ := h.rs.get hi
 refine ⟨some ⟨b, off + i * 35, none⟩, fun W => ?_, ?_⟩
 · rw [run_sliceAt_slice _ _ _ _ _ _ lelemE2, run_slice_lh _ _ _ n c lelemE2 .i64 .i64 (i : Int) ((i : Int) + 1) (by omega) (by omega) (by omega), lsizeOfE2, Result.andThen_ok]
   unfold sliced
   rw [show ((i : Int) + 1).toNat = i + 1 by omega, Int.toNat_natCast, if_neg (by omega), Nat.add_sub_cancel_left]
   simp [Addr.add]
 · have hc := ltakeE2 (k := 1) (ES.mk (h.rs.cut (k := i) (by omega)) (by have := h.bd; omega)) (by omega)
   rw [if_neg (by omega)] at hc
   rw [List.drop_eq_getElem_cons (by rw [h.rs.len]; exact hin)] at hc
   simp only [List.take_succ_cons, List.take_zero] at hc
   rwa [show l[i]'(by rw [h.rs.len]; exact hin) = e from Option.some.inj ((List.getElem?_eq_getElem _).symm.trans hi)] at hc
structure FoE (w : World) (b off k : Nat) (e : Ent) (a : Option Addr) (n c : Nat) : Prop where
 ok : OkE e
 kind : w.cell? ⟨b, off + k * 35, none⟩ = some (.int .i64 e.kind)
 dig : w.rangeAt b (off + k * 35 + 1) (bv e.dig)
 data : w.cell? ⟨b, off + k * 35 + 33, none⟩ = some (.slice a n c)
 bw : BW w a n c e.data
theorem ES.foE {K : Nat → Prop} {w : World} {ad : Option Addr} {m cp : Nat} {l : List Ent} {k : Nat} {e : Ent} (h : ES K w ad m cp l) (he : l[k]? = some e) : ∃ b off a n c, ad = some ⟨b, off, none⟩ ∧ ∀ wz, Below w.heap.size w wz → FoE wz b off k e a n c := by
 obtain ⟨b, off, r, rfl, hb, _, ⟨ok, a, n, c, rfl, hbk⟩, hrl, hrg⟩ := h.rs.get he
 refine ⟨b, off, a, n, c, rfl, fun wz hw => ⟨ok, ?_, ?_, ?_, hbk.bs.below hw⟩⟩
 · have := hrg 0 _ (entC_kind e a n c)
   rw [Nat.add_zero] at this
   exact (hw.cell (p := ⟨b, off + k * 35, none⟩) hb).trans this
 · intro j v hv
   exact (hw.cell (p := ⟨b, _, none⟩) hb).trans ((EntR.of hrg ok.dig).dig j v hv)
 · exact (hw.cell (p := ⟨b, off + k * 35 + 33, none⟩) hb).trans (hrg 33 _ (entC_data ok.dig a n c))

set_option maxRecDepth 100000 in
set_option maxHeartbeats 20000000 in
theorem lforked_walk (s : St) (a : Option Addr) (n c : Nat) (f : Int) (hf : I64 f) (y : Nat) (_hy : y < 18446744073709551616) (w : World) (HT : Tabs w) (S0 : SVr w a n c s) :
 Calls Tryz.prog 7 #[.agg (stC s a n c).toArray, .int .i64 f, .int .u64 (y : Int)] w (RetBo true w) := by
 have HT' := Lib.hid HT; have S0' := Lib.hid S0
 clear HT S0
 obtain ⟨sb, hsb⟩ : ∃ sb, Hid (w.heap.size = sb) := ⟨_, rfl⟩
 obtain ⟨W1, hW1⟩ : ∃ W1, Hid (w.alloc (.cells #[.int .i64 s.id, .int .i64 s.priv, .slice a n c] 24) = W1) := ⟨_, rfl⟩
 have hB1 : Hid (Blk W1 sb 24 (stC s a n c)) := by rw [← hW1.out, ← hsb.out]; exact Blk.new w _ (stC s a n c)
 have hbw : Hid (Below w.heap.size w W1) := by rw [← hW1.out]; exact (Below.refl _ w).alloc (Nat.le_refl _) _
 obtain ⟨X, hX⟩ : ∃ X, Hid (X = RetBo true w) := ⟨_, rfl⟩
 have hfin : Hid (∀ W, Below w.heap.size w W → X (.returned (.bool true)) W) := fun W hb => by rw [hX.out]; exact ⟨rfl, hb⟩
 rw [← hX.out]
 clear hX
 obtain ⟨fq, hfq⟩ : ∃ q, Hid (few30s s = q) := ⟨_, rfl⟩
 have hfw := Lib.hid (fun W (hW : Below w.heap.size w W) => few30s_any a n c s W (S0'.out.below hW))
 rw [hfq.out] at hfw
 unfold stC at *
 go_enter Tryz.func7, Tryz.ntmps7
 go_upto_region 1 with fail
 rw [hsb.out]
 generalize hWq : w.alloc _ = Wq
 obtain rfl : W1 = Wq := by rw [← hWq]; exact hW1.out.symm
 clear hWq hW1
 go_wp2_with fail
 refine (sane31_any _ (HT'.out.below hbw.out)).mono ?_
 rintro e w2 ⟨rfl, hst⟩
 replace hB1 := Lib.hid (hB1.out.below hst hB1.out.lt)
 replace hbw := Lib.hid (hbw.out.trans (hst.mono hbw.out.size))
 clear hst
 have l0 := hB1.out.at_ (i := 0) rfl
 have l1 := hB1.out.at_ (i := 1) rfl
 have l2 := hB1.out.at_ (i := 2) rfl
 go_wp2_with fail
 refine (hfw.out _ hbw.out).mono ?_
 rintro e w3 ⟨rfl, hst⟩
 replace hB1 := Lib.hid (hB1.out.below hst hB1.out.lt)
 replace hbw := Lib.hid (hbw.out.trans (hst.mono hbw.out.size))
 clear hst l0 l1 l2 hfw
 cases fq with
 | false =>
  have hf0 := Lib.hid (hfin.out _ hbw.out)
  clear hB1 hbw hfq
  go_wp2_with fail
  exact hf0.out
 | true =>
  have hsv : Hid (∀ W, Below w.heap.size w W → SV (fun _ => True) W a n c s) := fun W h => (S0'.out.below h).sv hfq.out
  have hbd : Hid (∀ f, BdL 0 (Sto.ents s f)) := fun f => few_bd hfq.out f
  clear hfq S0'
  have l0 := hB1.out.at_ (i := 0) rfl
  have l1 := hB1.out.at_ (i := 1) rfl
  have l2 := hB1.out.at_ (i := 2) rfl
  have hck := Lib.hid (Check_any (fun _ => True) a n c s w3 (HT'.out.below hbw.out) (hsv.out _ hbw.out))
  obtain ⟨q0, hq0⟩ : ∃ q, Hid (Sto.chkS s = q) := ⟨_, rfl⟩
  rw [hq0.out] at hck
  go_wp2_with fail
  refine hck.out.mono ?_
  rintro e w4 ⟨rfl, hst⟩
  replace hB1 := Lib.hid (hB1.out.below hst hB1.out.lt)
  replace hbw := Lib.hid (hbw.out.trans (hst.mono hbw.out.size))
  clear hst l0 l1 l2 hck
  by_cases hqz : q0 = 0
  case neg =>
   have hqn : (q0 != 0) = true := by simpa using hqz
   have hf0 := Lib.hid (hfin.out _ hbw.out)
   clear hqz hq0
   go_wp2_with fail
   exact hf0.out
  case pos =>
   subst hqz
   have hck0 := Lib.hid hq0.out
   clear hq0
   have hfe := Lib.hid (Fetch_any a n c s f 1 ⟨by decide, by decide⟩ w4 (HT'.out.below hbw.out) (hsv.out _ hbw.out))
   have hln := Sto.fetch_bd (fr := 1) (hbd.out f)
   have hl14 : (Sto.fetchS s f 1).1.length ≤ 14 := hln.len
   have hd9 : Hid (∀ e ∈ (Sto.fetchS s f 1).1, e.data.length ≤ 9000) := hln.data
   have hfk := Lib.hid (fun m e => @Sto.shown_frk s f m e hck0.out)
   have hfh := Lib.hid (fun m e => @Sto.honest_frk s f m e hck0.out)
   have hfc := Lib.hid (fun m => @Sto.chk_frk s m hck0.out)
   clear hln
   generalize Sto.fetchS s f 1 = p at *
   obtain ⟨L, q⟩ := p
   simp only at hfe hl14 hd9 hfk hfh
   have l0 := hB1.out.at_ (i := 0) rfl
   have l1 := hB1.out.at_ (i := 1) rfl
   have l2 := hB1.out.at_ (i := 2) rfl
   go_wp2_with fail
   refine hfe.out.mono ?_
   rintro e w5 ⟨ta, tc, rfl, hE, hst⟩
   clear l0 l1 l2 hfe
   replace hB1 := Lib.hid (hB1.out.below hst hB1.out.lt)
   replace hbw := Lib.hid (hbw.out.trans (hst.mono hbw.out.size))
   have hT5 : Hid (ES (fun _ => True) w5 ta L.length tc L) := hE.imp fun _ _ _ => trivial
   clear hst hE
   by_cases hq : q = 0
   case neg =>
    have hqn : (q != 0) = true := by simpa using hq
    have hf0 := Lib.hid (hfin.out _ hbw.out)
    clear hq hfk hfh
    go_wp2_with fail
    exact hf0.out
   case pos =>
    subst hq
    by_cases hL0 : L.length = 0
    case pos =>
     have hf0 := Lib.hid (hfin.out _ hbw.out)
     rw [hL0]
     clear hfk hfh
     go_wp2_with fail
     exact hf0.out
    case neg =>
     have hLn : ((L.length : Int) == 0) = false := by simpa using hL0
     obtain ⟨m, hm⟩ : ∃ m, Hid (y % L.length = m) := ⟨_, rfl⟩
     have hml : m < L.length := by rw [← hm.out]; exact Nat.mod_lt _ (by omega)
     obtain ⟨e0, he0⟩ : ∃ e, L[m]? = some e := ⟨_, List.getElem?_eq_getElem hml⟩
     obtain ⟨hk1, hk0⟩ := hfk.out m e0 rfl (by omega) he0
     obtain ⟨hh1, hh2⟩ := hfh.out m e0 rfl (by omega) he0
     have hmi : Int.tmod (y : Int) (L.length : Int) = (m : Int) := by rw [← hm.out]; rfl
     have hmj : (y : Int) % (L.length : Int) = (m : Int) := by rw [← hm.out]; rfl
     clear hfk hfh hm
     have hm14 : m ≤ 14 := by omega
     have kw1 : IntKind.i64.wrap ((m : Int) + 1) = (m : Int) + 1 := IntWalk.i64_in _ (by omega)
     obtain ⟨F0, hF⟩ : ∃ F, Hid (forkE e0 = F) := ⟨_, rfl⟩
     rw [hF.out] at hk1 hh2
     obtain ⟨L2, hL2⟩ : ∃ l, Hid (L.set m F0 = l) := ⟨_, rfl⟩
     have hL2n : Hid (L2.length = L.length) := by show _ = _; rw [← hL2.out, List.length_set]
     have hL2m : Hid (L2[m]? = some F0) := by show _ = _; rw [← hL2.out, List.getElem?_set, if_pos rfl, if_pos hml]
     have hL2i : Hid (∀ i, i ≠ m → L2[i]? = L[i]?) := fun i hi => by rw [← hL2.out, List.getElem?_set_ne (fun e => hi e.symm)]
     have hFk : Hid (F0.dig = entryD F0.kind F0.data ∧ F0.data.length = e0.data.length + 1) := by
      show _ ∧ _
      rw [← hF.out]
      exact ⟨rfl, by show (e0.data ++ [0]).length = _; rw [List.length_append]; rfl⟩
     have hed : e0.data.length ≤ 9000 := hd9.out e0 (List.mem_of_getElem? he0)
     rw [hL2.out] at hk1
     obtain ⟨bq, hbq⟩ : ∃ q, Hid (decide (F0.dig = e0.dig) = q) := ⟨_, rfl⟩
     have hap : decide (e0.dig ≠ F0.dig) = !bq := by
      rw [← hbq.out]
      by_cases h : F0.dig = e0.dig
      · simp [h]
      · have h2 : ¬ e0.dig = F0.dig := fun e => h e.symm
        simp [h, h2]
     rw [hap] at hh2
     clear hF hap hk0 hd9
     have l0 := hB1.out.at_ (i := 0) rfl
     have l1 := hB1.out.at_ (i := 1) rfl
     have l2 := hB1.out.at_ (i := 2) rfl
     have hrm : Hid (RuS (w5.alloc (.cells #[.int .i64 1, .int .i64 5, .int .i64 ((m : Int) + 1)] 72)) (some ⟨w5.heap.size, 0, none⟩) 1 1 [frk m]) := rus_made w5 [frk m] 1 rfl (by decide) (by decide)
     have hal : Below w5.heap.size w5 (w5.alloc (.cells #[.int .i64 1, .int .i64 5, .int .i64 ((m : Int) + 1)] 72)) := (Below.refl _ w5).alloc (Nat.le_refl _) _
     replace hB1 := Lib.hid (hB1.out.below hal hB1.out.lt)
     replace hT5 := Lib.hid (hT5.out.below hal)
     replace hbw := Lib.hid (hbw.out.trans (hal.mono hbw.out.size))
     have hRr := hrm
     clear hrm hal
     obtain ⟨v5, hP⟩ : ∃ V, Hid (PutR 27 ((w5.alloc (.cells #[.int .i64 1, .int .i64 5, .int .i64 ((m : Int) + 1)] 72)).alloc (.cells ([.int .i64 0, .int .i64 0, .slice none 0 0, .slice none 0 0] : List Value).toArray 27)) V (w5.alloc (.cells #[.int .i64 1, .int .i64 5, .int .i64 ((m : Int) + 1)] 72)).heap.size 27 ([.int .i64 s.id, .int .i64 s.priv, .slice a n c, .slice (some ⟨w5.heap.size, 0, none⟩) 1 1])) := put_row (Blk.new (w5.alloc (.cells #[.int .i64 1, .int .i64 5, .int .i64 ((m : Int) + 1)] 72)) 27 ([.int .i64 0, .int .i64 0, .slice none 0 0, .slice none 0 0])) rfl (sizeLi) (li_one _ _ _ _ _ _ _ _)
     have hst := below_grown ((Below.refl _ (w5.alloc (.cells #[.int .i64 1, .int .i64 5, .int .i64 ((m : Int) + 1)] 72))).alloc (Nat.le_refl _) _) hP.out.grown (by simp) (Nat.le_refl _)
     replace hB1 := Lib.hid (hB1.out.below hst hB1.out.lt)
     replace hT5 := Lib.hid (hT5.out.below hst)
     replace hRr := Lib.hid (hRr.out.below hst)
     replace hbw := Lib.hid (hbw.out.trans (hst.mono hbw.out.size))
     clear hst
     have hBl := Lib.hid hP.out.blk
     rw [show (w5.alloc (.cells #[.int .i64 1, .int .i64 5, .int .i64 ((m : Int) + 1)] 72)).heap.size = w5.heap.size + 1 from World.size_alloc _ _] at hP hBl
     have k0 := hBl.out.at_ (i := 0) rfl
     have k1 := hBl.out.at_ (i := 1) rfl
     have k2 := hBl.out.at_ (i := 2) rfl
     have k3 := hBl.out.at_ (i := 3) rfl
     go_wp2_with (first
      | (refine wpList_store_mid (by rfl) 27 (.tmp 10) (.tmp 53) (by rfl) (w5.heap.size + 1) 0 ([.int .i64 s.id, .int .i64 s.priv, .slice a n c, .slice (some ⟨w5.heap.size, 0, none⟩) 1 1]).toArray (by rfl) (by rfl) hP.out.there hP.out.info (by simpa using hP.out.one) ?_
         generalize hWq : World.setCells _ _ _ _ = Wa
         obtain rfl : v5 = Wa := by rw [← hWq]; exact hP.out.eq
         clear hWq))
     clear l0 l1 l2 hP
     refine (show_at hk1 (.inl rfl) (by rw [hL2n.out]; omega) hf (HT'.out.below hbw.out) (hsv.out _ hbw.out) hRr.out (hbd.out f)).mono ?_
     rintro e w6 ⟨xa, xc, rfl, hE, hst⟩
     clear k0 k1 k2 k3 hk1
     replace hB1 := Lib.hid (hB1.out.below hst hB1.out.lt)
     replace hT5 := Lib.hid (hT5.out.below hst)
     replace hRr := Lib.hid (hRr.out.below hst)
     replace hBl := Lib.hid (hBl.out.below hst hBl.out.lt)
     replace hbw := Lib.hid (hbw.out.trans (hst.mono hbw.out.size))
     have hX6 : Hid (ES (fun _ => True) w6 xa L2.length xc L2) := hE.imp fun _ _ _ => trivial
     clear hst hE
     rw [hL2n.out] at hX6 ⊢
     generalize hh6 : showH s [frk m] 1 f = h6
     have ln6 : Hid (h6.length = 37) := by rw [← hh6]; exact showH_len _ _ _ _
     have on6 : Hid (∀ u ∈ h6, u.oneCell' = true) := by rw [← hh6]; exact showH_one _ _ _ _
     clear hh6
     obtain ⟨v6, hP⟩ : ∃ V, Hid (PutR 36 (w6.alloc (.cells (zeroHd : List Value).toArray 36)) V w6.heap.size 36 (h6)) := put_row (Blk.new w6 36 (zeroHd)) (by rw [ln6.out, zeroHd_len]) (by rw [ln6.out]; exact size37) (on6.out)
     have hst := below_grown ((Below.refl _ w6).alloc (Nat.le_refl _) _) hP.out.grown (by simp) (Nat.le_refl _)
     replace hB1 := Lib.hid (hB1.out.below hst hB1.out.lt)
     replace hT5 := Lib.hid (hT5.out.below hst)
     replace hRr := Lib.hid (hRr.out.below hst)
     replace hBl := Lib.hid (hBl.out.below hst hBl.out.lt)
     replace hX6 := Lib.hid (hX6.out.below hst)
     replace hbw := Lib.hid (hbw.out.trans (hst.mono hbw.out.size))
     clear hst
     have hH6 := Lib.hid hP.out.blk
     clear hH6
     have k0 := hBl.out.at_ (i := 0) rfl
     have k1 := hBl.out.at_ (i := 1) rfl
     have k2 := hBl.out.at_ (i := 2) rfl
     have k3 := hBl.out.at_ (i := 3) rfl
     go_wp2_with (first
      | (refine wpList_store_mid (by rfl) 36 (.tmp 12) (.tmp 59) (by rfl) w6.heap.size 0 (h6).toArray (by rfl) (by rfl) hP.out.there hP.out.info (by simpa using hP.out.one) ?_
         generalize hWq : World.setCells _ _ _ _ = Wa
         obtain rfl : v6 = Wa := by rw [← hWq]; exact hP.out.eq
         clear hWq))
     clear hP ln6 on6
     refine (apart_at hh2 (HT'.out.below hbw.out) (hsv.out _ hbw.out) hRr.out (hbd.out f)).mono ?_
     rintro e w7 ⟨rfl, hst⟩
     clear k0 k1 k2 k3 hh2
     replace hB1 := Lib.hid (hB1.out.below hst hB1.out.lt)
     replace hT5 := Lib.hid (hT5.out.below hst)
     replace hRr := Lib.hid (hRr.out.below hst)
     replace hBl := Lib.hid (hBl.out.below hst hBl.out.lt)
     replace hX6 := Lib.hid (hX6.out.below hst)
     replace hbw := Lib.hid (hbw.out.trans (hst.mono hbw.out.size))
     clear hst
     have k0 := hBl.out.at_ (i := 0) rfl
     have k1 := hBl.out.at_ (i := 1) rfl
     have k2 := hBl.out.at_ (i := 2) rfl
     have k3 := hBl.out.at_ (i := 3) rfl
     go_wp2_with fail
     refine (honest_at hh1 (HT'.out.below hbw.out) (hsv.out _ hbw.out) hRr.out (hbd.out f)).mono ?_
     rintro e w8 ⟨rfl, hst⟩
     clear k0 k1 k2 k3 hh1
     replace hB1 := Lib.hid (hB1.out.below hst hB1.out.lt)
     replace hT5 := Lib.hid (hT5.out.below hst)
     replace hRr := Lib.hid (hRr.out.below hst)
     replace hBl := Lib.hid (hBl.out.below hst hBl.out.lt)
     replace hX6 := Lib.hid (hX6.out.below hst)
     replace hbw := Lib.hid (hbw.out.trans (hst.mono hbw.out.size))
     clear hst
     clear hBl hRr
     clear hB1 hsv hbd
     go_wp2_with fail
     go_loopw [18] (fun i wr => ∃ k : Nat, k ≤ L.length ∧ i = .int .i64 k ∧ Hid (Below w8.heap.size w8 wr)) (fun i _ => L.length - (intOf i).toNat)
     case atStart => exact ⟨0, Nat.zero_le _, rfl, Below.refl _ _⟩
     case round =>
      obtain ⟨k, hk, rfl, hb⟩ := hrel
      by_cases hlt : k < L.length
      · have k0 : (0 : Int) ≤ (k : Int) := by omega
        have k1 : (k : Int) < (L.length : Int) := by omega
        have kw : IntKind.i64.wrap ((k : Int) + 1) = (k : Int) + 1 := IntWalk.i64_in _ (by omega)
        go_upto_region 18 with fail
        by_cases hkm : k = m
        · have g1 : ((k : Int) != (m : Int)) = false := by simp; omega
          refine wp_region_held_drew (S := fun wz => Below wr.heap.size wr wz) (by kernel_rfl) ((Below.refl _ wr).drew) (fun hHeld => ?_)
          refine wpAnyH_take (i := 0) (oi := ⟨some 99, .move (.tmp 18), 3, "law.go:163", #[], none⟩) (v := ?_) rfl (by kernel_rfl) (by kernel_rfl) (by kernel_rfl) (fun _ _ _ h => h) (Or.inl ⟨by rfl, ?_⟩) hHeld ?_
          rotate_left
          · intro wz hSw
            go_simp
            all_goals (with_reducible rfl)
          try simp only [Act.put, List.setIfInBounds_toArray, List.set_cons_zero, List.set_cons_succ]
          refine wpAnyH_take (i := 1) (oi := ⟨some 100, .move (.tmp 9), 3, "law.go:163", #[], none⟩) (v := ?_) rfl (by kernel_rfl) (by kernel_rfl) (by kernel_rfl) (fun _ _ _ h => h) (Or.inl ⟨by rfl, ?_⟩) hHeld ?_
          rotate_left
          · intro wz hSw
            go_simp
            all_goals (with_reducible rfl)
          try simp only [Act.put, List.setIfInBounds_toArray, List.set_cons_zero, List.set_cons_succ]
          refine wpAnyH_take (i := 2) (oi := ⟨some 101, .binOp .neq 3 (.tmp 99) (.tmp 100) 3, 4, "law.go:163", #[⟨0, .data⟩, ⟨1, .data⟩], none⟩) (v := ?_) rfl (by kernel_rfl) (by kernel_rfl) (by kernel_rfl) (fun _ _ _ h => h) (Or.inl ⟨by rfl, ?_⟩) hHeld ?_
          rotate_left
          · intro wz hSw
            go_simp
            all_goals (with_reducible rfl)
          try simp only [Act.put, List.setIfInBounds_toArray, List.set_cons_zero, List.set_cons_succ]
          refine wpAnyH_take (i := 3) (oi := ⟨some 102, .move (.tmp 101), 4, "law.go:163", #[⟨2, .data⟩], none⟩) (v := ?_) rfl (by kernel_rfl) (by kernel_rfl) (by kernel_rfl) (fun _ _ _ h => h) (Or.inl ⟨by rfl, ?_⟩) hHeld ?_
          rotate_left
          · intro wz hSw
            go_simp
            all_goals (with_reducible rfl)
          try simp only [Act.put, List.setIfInBounds_toArray, List.set_cons_zero, List.set_cons_succ]
          refine wpAnyH_take (i := 4) (oi := ⟨some 103, .move (.tmp 11), 30, "law.go:163", #[⟨3, .guard⟩], some (3, true)⟩) (v := undef) rfl (by kernel_rfl) (by kernel_rfl) (by kernel_rfl) (fun _ _ _ h => h) (Or.inr ⟨by rfl, rfl⟩) hHeld ?_
          try simp only [Act.put, List.setIfInBounds_toArray, List.set_cons_zero, List.set_cons_succ]
          refine wpAnyH_take (i := 5) (oi := ⟨some 104, .move (.tmp 18), 3, "law.go:163", #[⟨3, .guard⟩], some (3, true)⟩) (v := undef) rfl (by kernel_rfl) (by kernel_rfl) (by kernel_rfl) (fun _ _ _ h => h) (Or.inr ⟨by rfl, rfl⟩) hHeld ?_
          try simp only [Act.put, List.setIfInBounds_toArray, List.set_cons_zero, List.set_cons_succ]
          refine wpAnyH_take (i := 6) (oi := ⟨some 105, .move (.tmp 18), 3, "law.go:163", #[⟨3, .guard⟩], some (3, true)⟩) (v := undef) rfl (by kernel_rfl) (by kernel_rfl) (by kernel_rfl) (fun _ _ _ h => h) (Or.inr ⟨by rfl, rfl⟩) hHeld ?_
          try simp only [Act.put, List.setIfInBounds_toArray, List.set_cons_zero, List.set_cons_succ]
          refine wpAnyH_take (i := 7) (oi := ⟨some 106, .binOp .add 3 (.tmp 105) (.const (.int .i64 1)) 3, 3, "law.go:163", #[⟨6, .data⟩, ⟨3, .guard⟩], some (3, true)⟩) (v := undef) rfl (by kernel_rfl) (by kernel_rfl) (by kernel_rfl) (fun _ _ _ h => h) (Or.inr ⟨by rfl, rfl⟩) hHeld ?_
          try simp only [Act.put, List.setIfInBounds_toArray, List.set_cons_zero, List.set_cons_succ]
          refine wpAnyH_take (i := 8) (oi := ⟨some 107, .slice 30 (.tmp 103) (some (.tmp 104)) (some (.tmp 106)) none, 30, "law.go:163", #[⟨4, .data⟩, ⟨5, .data⟩, ⟨7, .data⟩, ⟨3, .guard⟩], some (3, true)⟩) (v := undef) rfl (by kernel_rfl) (by kernel_rfl) (by kernel_rfl) (fun _ _ _ h => h) (Or.inr ⟨by rfl, rfl⟩) hHeld ?_
          try simp only [Act.put, List.setIfInBounds_toArray, List.set_cons_zero, List.set_cons_succ]
          refine wpAnyH_take (i := 9) (oi := ⟨some 108, .move (.tmp 7), 30, "law.go:163", #[⟨3, .guard⟩], some (3, true)⟩) (v := undef) rfl (by kernel_rfl) (by kernel_rfl) (by kernel_rfl) (fun _ _ _ h => h) (Or.inr ⟨by rfl, rfl⟩) hHeld ?_
          try simp only [Act.put, List.setIfInBounds_toArray, List.set_cons_zero, List.set_cons_succ]
          refine wpAnyH_take (i := 10) (oi := ⟨some 109, .move (.tmp 18), 3, "law.go:163", #[⟨3, .guard⟩], some (3, true)⟩) (v := undef) rfl (by kernel_rfl) (by kernel_rfl) (by kernel_rfl) (fun _ _ _ h => h) (Or.inr ⟨by rfl, rfl⟩) hHeld ?_
          try simp only [Act.put, List.setIfInBounds_toArray, List.set_cons_zero, List.set_cons_succ]
          refine wpAnyH_take (i := 11) (oi := ⟨some 110, .move (.tmp 18), 3, "law.go:163", #[⟨3, .guard⟩], some (3, true)⟩) (v := undef) rfl (by kernel_rfl) (by kernel_rfl) (by kernel_rfl) (fun _ _ _ h => h) (Or.inr ⟨by rfl, rfl⟩) hHeld ?_
          try simp only [Act.put, List.setIfInBounds_toArray, List.set_cons_zero, List.set_cons_succ]
          refine wpAnyH_take (i := 12) (oi := ⟨some 111, .binOp .add 3 (.tmp 110) (.const (.int .i64 1)) 3, 3, "law.go:163", #[⟨11, .data⟩, ⟨3, .guard⟩], some (3, true)⟩) (v := undef) rfl (by kernel_rfl) (by kernel_rfl) (by kernel_rfl) (fun _ _ _ h => h) (Or.inr ⟨by rfl, rfl⟩) hHeld ?_
          try simp only [Act.put, List.setIfInBounds_toArray, List.set_cons_zero, List.set_cons_succ]
          refine wpAnyH_take (i := 13) (oi := ⟨some 112, .slice 30 (.tmp 108) (some (.tmp 109)) (some (.tmp 111)) none, 30, "law.go:163", #[⟨9, .data⟩, ⟨10, .data⟩, ⟨12, .data⟩, ⟨3, .guard⟩], some (3, true)⟩) (v := undef) rfl (by kernel_rfl) (by kernel_rfl) (by kernel_rfl) (fun _ _ _ h => h) (Or.inr ⟨by rfl, rfl⟩) hHeld ?_
          try simp only [Act.put, List.setIfInBounds_toArray, List.set_cons_zero, List.set_cons_succ]
          refine wpAnyH_ready (rs := [14]) (by kernel_rfl) (by simp) ?_
          refine AllReadyH.cons (o := ⟨some 113, .call { callee := .value (.func 28), args := #[.tmp 107, .tmp 112], argTypes := #[30, 30] }, 4, "law.go:163", #[⟨8, .data⟩, ⟨13, .data⟩, ⟨3, .chain⟩, ⟨3, .guard⟩], some (3, true)⟩) rfl (fun K hK => ?_) AllReadyH.nil
          rw [if_neg (Bool.eq_false_iff.1 (by rfl))]
          refine hK.out _ _ hHeld (fun hHeld => ?_)
          clear hK K
          try simp only [Act.put, List.setIfInBounds_toArray, List.set_cons_zero, List.set_cons_succ]
          refine wpAnyH_take (i := 15) (oi := ⟨some 114, .unOp .not 4 (.tmp 113), 4, "law.go:163", #[⟨14, .data⟩, ⟨3, .guard⟩], some (3, true)⟩) (v := undef) rfl (by kernel_rfl) (by kernel_rfl) (by kernel_rfl) (fun _ _ _ h => h) (Or.inr ⟨by rfl, rfl⟩) hHeld ?_
          try simp only [Act.put, List.setIfInBounds_toArray, List.set_cons_zero, List.set_cons_succ]
          refine wpAnyH_take (i := 16) (oi := ⟨some 115, .pick (.tmp 102) (.tmp 114) (.const (.bool false)), 4, "law.go:163", #[⟨3, .data⟩, ⟨15, .data⟩], none⟩) (v := ?_) rfl (by kernel_rfl) (by kernel_rfl) (by kernel_rfl) (fun _ _ _ h => h) (Or.inl ⟨by rfl, ?_⟩) hHeld ?_
          rotate_left
          · intro wz hSw
            go_simp
            all_goals (with_reducible rfl)
          try simp only [Act.put, List.setIfInBounds_toArray, List.set_cons_zero, List.set_cons_succ]
          refine wpAnyH_done (by kernel_rfl) ?_ _
          have hb2 := Lib.hid (hb.out.trans (hHeld.mono hb.out.size))
          clear hHeld
          go_wp2_with fail
          go_roundw
          case rel => exact ⟨k + 1, by omega, by go_num, hb2⟩
          case measure => simp [intOf]; omega
        · have g1 : ((k : Int) != (m : Int)) = true := by simp; omega
          obtain ⟨ek, hek⟩ : ∃ e, L[k]? = some e := ⟨_, List.getElem?_eq_getElem hlt⟩
          have hek2 : L2[k]? = some ek := (hL2i.out k hkm).trans hek
          obtain ⟨sa, hs1, hS1⟩ := lslice_mid (hX6.out.below hb.out) hek2
          obtain ⟨sc, hs2, hS2⟩ := lslice_mid (hT5.out.below hb.out) hek
          have hS1' := Lib.hid hS1
          have hS2' := Lib.hid hS2
          clear hS1 hS2 hek hek2
          refine wp_region_held_drew (S := fun wz => Below wr.heap.size wr wz) (by kernel_rfl) ((Below.refl _ wr).drew) (fun hHeld => ?_)
          refine wpAnyH_take (i := 0) (oi := ⟨some 99, .move (.tmp 18), 3, "law.go:163", #[], none⟩) (v := ?_) rfl (by kernel_rfl) (by kernel_rfl) (by kernel_rfl) (fun _ _ _ h => h) (Or.inl ⟨by rfl, ?_⟩) hHeld ?_
          rotate_left
          · intro wz hSw
            go_simp
            all_goals (with_reducible rfl)
          try simp only [Act.put, List.setIfInBounds_toArray, List.set_cons_zero, List.set_cons_succ]
          refine wpAnyH_take (i := 1) (oi := ⟨some 100, .move (.tmp 9), 3, "law.go:163", #[], none⟩) (v := ?_) rfl (by kernel_rfl) (by kernel_rfl) (by kernel_rfl) (fun _ _ _ h => h) (Or.inl ⟨by rfl, ?_⟩) hHeld ?_
          rotate_left
          · intro wz hSw
            go_simp
            all_goals (with_reducible rfl)
          try simp only [Act.put, List.setIfInBounds_toArray, List.set_cons_zero, List.set_cons_succ]
          refine wpAnyH_take (i := 2) (oi := ⟨some 101, .binOp .neq 3 (.tmp 99) (.tmp 100) 3, 4, "law.go:163", #[⟨0, .data⟩, ⟨1, .data⟩], none⟩) (v := ?_) rfl (by kernel_rfl) (by kernel_rfl) (by kernel_rfl) (fun _ _ _ h => h) (Or.inl ⟨by rfl, ?_⟩) hHeld ?_
          rotate_left
          · intro wz hSw
            go_simp
            all_goals (with_reducible rfl)
          try simp only [Act.put, List.setIfInBounds_toArray, List.set_cons_zero, List.set_cons_succ]
          refine wpAnyH_take (i := 3) (oi := ⟨some 102, .move (.tmp 101), 4, "law.go:163", #[⟨2, .data⟩], none⟩) (v := ?_) rfl (by kernel_rfl) (by kernel_rfl) (by kernel_rfl) (fun _ _ _ h => h) (Or.inl ⟨by rfl, ?_⟩) hHeld ?_
          rotate_left
          · intro wz hSw
            go_simp
            all_goals (with_reducible rfl)
          try simp only [Act.put, List.setIfInBounds_toArray, List.set_cons_zero, List.set_cons_succ]
          refine wpAnyH_take (i := 4) (oi := ⟨some 103, .move (.tmp 11), 30, "law.go:163", #[⟨3, .guard⟩], some (3, true)⟩) (v := ?_) rfl (by kernel_rfl) (by kernel_rfl) (by kernel_rfl) (fun _ _ _ h => h) (Or.inl ⟨by rfl, ?_⟩) hHeld ?_
          rotate_left
          · intro wz hSw
            go_simp
            all_goals (with_reducible rfl)
          try simp only [Act.put, List.setIfInBounds_toArray, List.set_cons_zero, List.set_cons_succ]
          refine wpAnyH_take (i := 5) (oi := ⟨some 104, .move (.tmp 18), 3, "law.go:163", #[⟨3, .guard⟩], some (3, true)⟩) (v := ?_) rfl (by kernel_rfl) (by kernel_rfl) (by kernel_rfl) (fun _ _ _ h => h) (Or.inl ⟨by rfl, ?_⟩) hHeld ?_
          rotate_left
          · intro wz hSw
            go_simp
            all_goals (with_reducible rfl)
          try simp only [Act.put, List.setIfInBounds_toArray, List.set_cons_zero, List.set_cons_succ]
          refine wpAnyH_take (i := 6) (oi := ⟨some 105, .move (.tmp 18), 3, "law.go:163", #[⟨3, .guard⟩], some (3, true)⟩) (v := ?_) rfl (by kernel_rfl) (by kernel_rfl) (by kernel_rfl) (fun _ _ _ h => h) (Or.inl ⟨by rfl, ?_⟩) hHeld ?_
          rotate_left
          · intro wz hSw
            go_simp
            all_goals (with_reducible rfl)
          try simp only [Act.put, List.setIfInBounds_toArray, List.set_cons_zero, List.set_cons_succ]
          refine wpAnyH_take (i := 7) (oi := ⟨some 106, .binOp .add 3 (.tmp 105) (.const (.int .i64 1)) 3, 3, "law.go:163", #[⟨6, .data⟩, ⟨3, .guard⟩], some (3, true)⟩) (v := ?_) rfl (by kernel_rfl) (by kernel_rfl) (by kernel_rfl) (fun _ _ _ h => h) (Or.inl ⟨by rfl, ?_⟩) hHeld ?_
          rotate_left
          · intro wz hSw
            go_simp
            all_goals (with_reducible rfl)
          try simp only [Act.put, List.setIfInBounds_toArray, List.set_cons_zero, List.set_cons_succ]
          refine wpAnyH_take (i := 8) (oi := ⟨some 107, .slice 30 (.tmp 103) (some (.tmp 104)) (some (.tmp 106)) none, 30, "law.go:163", #[⟨4, .data⟩, ⟨5, .data⟩, ⟨7, .data⟩, ⟨3, .guard⟩], some (3, true)⟩) (v := ?_) rfl (by kernel_rfl) (by kernel_rfl) (by kernel_rfl) (fun _ _ _ h => h) (Or.inl ⟨by rfl, ?_⟩) hHeld ?_
          rotate_left
          · intro wz hSw
            go_simp
            all_goals (with_reducible rfl)
          try simp only [Act.put, List.setIfInBounds_toArray, List.set_cons_zero, List.set_cons_succ]
          refine wpAnyH_take (i := 9) (oi := ⟨some 108, .move (.tmp 7), 30, "law.go:163", #[⟨3, .guard⟩], some (3, true)⟩) (v := ?_) rfl (by kernel_rfl) (by kernel_rfl) (by kernel_rfl) (fun _ _ _ h => h) (Or.inl ⟨by rfl, ?_⟩) hHeld ?_
          rotate_left
          · intro wz hSw
            go_simp
            all_goals (with_reducible rfl)
          try simp only [Act.put, List.setIfInBounds_toArray, List.set_cons_zero, List.set_cons_succ]
          refine wpAnyH_take (i := 10) (oi := ⟨some 109, .move (.tmp 18), 3, "law.go:163", #[⟨3, .guard⟩], some (3, true)⟩) (v := ?_) rfl (by kernel_rfl) (by kernel_rfl) (by kernel_rfl) (fun _ _ _ h => h) (Or.inl ⟨by rfl, ?_⟩) hHeld ?_
          rotate_left
          · intro wz hSw
            go_simp
            all_goals (with_reducible rfl)
          try simp only [Act.put, List.setIfInBounds_toArray, List.set_cons_zero, List.set_cons_succ]
          refine wpAnyH_take (i := 11) (oi := ⟨some 110, .move (.tmp 18), 3, "law.go:163", #[⟨3, .guard⟩], some (3, true)⟩) (v := ?_) rfl (by kernel_rfl) (by kernel_rfl) (by kernel_rfl) (fun _ _ _ h => h) (Or.inl ⟨by rfl, ?_⟩) hHeld ?_
          rotate_left
          · intro wz hSw
            go_simp
            all_goals (with_reducible rfl)
          try simp only [Act.put, List.setIfInBounds_toArray, List.set_cons_zero, List.set_cons_succ]
          refine wpAnyH_take (i := 12) (oi := ⟨some 111, .binOp .add 3 (.tmp 110) (.const (.int .i64 1)) 3, 3, "law.go:163", #[⟨11, .data⟩, ⟨3, .guard⟩], some (3, true)⟩) (v := ?_) rfl (by kernel_rfl) (by kernel_rfl) (by kernel_rfl) (fun _ _ _ h => h) (Or.inl ⟨by rfl, ?_⟩) hHeld ?_
          rotate_left
          · intro wz hSw
            go_simp
            all_goals (with_reducible rfl)
          try simp only [Act.put, List.setIfInBounds_toArray, List.set_cons_zero, List.set_cons_succ]
          refine wpAnyH_take (i := 13) (oi := ⟨some 112, .slice 30 (.tmp 108) (some (.tmp 109)) (some (.tmp 111)) none, 30, "law.go:163", #[⟨9, .data⟩, ⟨10, .data⟩, ⟨12, .data⟩, ⟨3, .guard⟩], some (3, true)⟩) (v := ?_) rfl (by kernel_rfl) (by kernel_rfl) (by kernel_rfl) (fun _ _ _ h => h) (Or.inl ⟨by rfl, ?_⟩) hHeld ?_
          rotate_left
          · intro wz hSw
            go_simp
            all_goals (with_reducible rfl)
          try simp only [Act.put, List.setIfInBounds_toArray, List.set_cons_zero, List.set_cons_succ]
          refine wpAnyH_ready (rs := [14]) (by kernel_rfl) (by simp) ?_
          refine AllReadyH.cons (o := ⟨some 113, .call { callee := .value (.func 28), args := #[.tmp 107, .tmp 112], argTypes := #[30, 30] }, 4, "law.go:163", #[⟨8, .data⟩, ⟨13, .data⟩, ⟨3, .chain⟩, ⟨3, .guard⟩], some (3, true)⟩) rfl (fun K hK => ?_) AllReadyH.nil
          rw [if_pos (by rfl)]
          show Oper.wp _ _ _ _ K _
          go_simp
          go_at_call 28
          refine (sameE_any (fun _ => True) (fun _ => True) sa sc 1 _ _ [ek] _ (hS1'.out.below hHeld) (hS2'.out.below hHeld)).mono ?_
          rintro e wq ⟨rfl, mq, hwq⟩
          have hstq := below_drewQ hHeld mq
          rw [← hwq] at hstq
          refine hK.out _ _ hstq (fun hHeld => ?_)
          clear hstq hwq
          clear hK K
          try simp only [Act.put, List.setIfInBounds_toArray, List.set_cons_zero, List.set_cons_succ]
          refine wpAnyH_take (i := 15) (oi := ⟨some 114, .unOp .not 4 (.tmp 113), 4, "law.go:163", #[⟨14, .data⟩, ⟨3, .guard⟩], some (3, true)⟩) (v := ?_) rfl (by kernel_rfl) (by kernel_rfl) (by kernel_rfl) (fun _ _ _ h => h) (Or.inl ⟨by rfl, ?_⟩) hHeld ?_
          rotate_left
          · intro wz hSw
            go_simp
            all_goals (with_reducible rfl)
          try simp only [Act.put, List.setIfInBounds_toArray, List.set_cons_zero, List.set_cons_succ]
          refine wpAnyH_take (i := 16) (oi := ⟨some 115, .pick (.tmp 102) (.tmp 114) (.const (.bool false)), 4, "law.go:163", #[⟨3, .data⟩, ⟨15, .data⟩], none⟩) (v := ?_) rfl (by kernel_rfl) (by kernel_rfl) (by kernel_rfl) (fun _ _ _ h => h) (Or.inl ⟨by rfl, ?_⟩) hHeld ?_
          rotate_left
          · intro wz hSw
            go_simp
            all_goals (with_reducible rfl)
          try simp only [Act.put, List.setIfInBounds_toArray, List.set_cons_zero, List.set_cons_succ]
          refine wpAnyH_done (by kernel_rfl) ?_ _
          have hb2 := Lib.hid (hb.out.trans (hHeld.mono hb.out.size))
          clear hHeld
          go_wp2_with fail
          go_roundw
          case rel => exact ⟨k + 1, by omega, by go_num, hb2⟩
          case measure => simp [intOf]; omega
      · obtain rfl : k = L.length := by omega
        obtain ⟨xb, xo, da, dn, dc, rfl, hx⟩ := hX6.out.foE hL2m.out
        obtain ⟨tb, tof, ua, un, uc, rfl, ht⟩ := hT5.out.foE he0
        have hx' := Lib.hid hx
        have ht' := Lib.hid ht
        have hxl := (hx w8 (Below.refl _ _)).bw.len
        have htl := (ht w8 (Below.refl _ _)).bw.len
        obtain rfl : dn = un + 1 := by have := hFk.out.2; omega
        have hun : un ≤ 9000 := by omega
        have okF := Lib.hid (hx w8 (Below.refl _ _)).ok
        have okE := Lib.hid (ht w8 (Below.refl _ _)).ok
        have m0 : (0 : Int) ≤ (m : Int) := by omega
        have m1 : (m : Int) < (L.length : Int) := by omega
        have uw : IntKind.i64.wrap ((un : Int) + 1) = (un : Int) + 1 := IntWalk.i64_in _ (by omega)
        have eqA : ∀ W, (Op.equalIn 10000 32 (.agg (bv F0.dig).toArray) (.agg (bv (entryD F0.kind F0.data)).toArray)).run Tryz.prog W = .ok true W := fun W => by
         have := eq_dig (x := F0.dig) (y := F0.dig) ⟨okF.out.dig, okF.out.lt⟩ ⟨okF.out.dig, okF.out.lt⟩ W
         rw [decide_eq_true rfl] at this
         rwa [← hFk.out.1]
        have eqB : ∀ W, (Op.equalIn 10000 32 (.agg (bv F0.dig).toArray) (.agg (bv e0.dig).toArray)).run Tryz.prog W = .ok bq W := fun W => by
         have := eq_dig (x := F0.dig) (y := e0.dig) ⟨okF.out.dig, okF.out.lt⟩ ⟨okE.out.dig, okE.out.lt⟩ W
         rwa [hbq.out] at this
        have i1 : Hid ((Tryz.prog.info? 32).map (·.size) = some (bv F0.dig).length) := by show _ = _; rw [bv_length, okF.out.dig]; exact size35
        have i2 : Hid ((Tryz.prog.info? 32).map (·.size) = some (bv e0.dig).length) := by show _ = _; rw [bv_length, okE.out.dig]; exact size35
        obtain ⟨DF, hDF⟩ : ∃ d, Hid (bv F0.dig = d) := ⟨_, rfl⟩
        obtain ⟨DE, hDE⟩ : ∃ d, Hid (bv e0.dig = d) := ⟨_, rfl⟩
        rw [hDF.out] at eqA eqB i1
        rw [hDE.out] at eqB i2
        have rF : Hid (∀ wz, Below w8.heap.size w8 wz → wz.rangeAt xb (xo + m * 35 + 1) DF) := fun wz h => by rw [← hDF.out]; exact (hx'.out wz h).dig
        have rE : Hid (∀ wz, Below w8.heap.size w8 wz → wz.rangeAt tb (tof + m * 35 + 1) DE) := fun wz h => by rw [← hDE.out]; exact (ht'.out wz h).dig
        have hb8 := Lib.hid hb.out
        clear hx ht hb hxl htl hed hbq
        go_upto_region 20 with fail
        refine wp_region_held_drew (S := fun wz => Below w8.heap.size w8 wz) (by kernel_rfl) (hb8.out.drew) (fun hHeld => ?_)
        refine wpAnyH_take (i := 0) (oi := ⟨some 116, .move (.tmp 11), 30, "law.go:167", #[], none⟩) (v := ?_) rfl (by kernel_rfl) (by kernel_rfl) (by kernel_rfl) (fun _ _ _ h => h) (Or.inl ⟨by rfl, ?_⟩) hHeld ?_
        rotate_left
        · intro wz hSw
          go_simp
          all_goals (with_reducible rfl)
        try simp only [Act.put, List.setIfInBounds_toArray, List.set_cons_zero, List.set_cons_succ]
        refine wpAnyH_take (i := 1) (oi := ⟨some 117, .move (.tmp 9), 3, "law.go:167", #[], none⟩) (v := ?_) rfl (by kernel_rfl) (by kernel_rfl) (by kernel_rfl) (fun _ _ _ h => h) (Or.inl ⟨by rfl, ?_⟩) hHeld ?_
        rotate_left
        · intro wz hSw
          go_simp
          all_goals (with_reducible rfl)
        try simp only [Act.put, List.setIfInBounds_toArray, List.set_cons_zero, List.set_cons_succ]
        refine wpAnyH_take (i := 2) (oi := ⟨some 118, .indexAddr 30 (.tmp 116) (.tmp 117), 0, "law.go:167", #[⟨0, .data⟩, ⟨1, .data⟩], none⟩) (v := ?_) rfl (by kernel_rfl) (by kernel_rfl) (by kernel_rfl) (fun _ _ _ h => h) (Or.inl ⟨by rfl, ?_⟩) hHeld ?_
        rotate_left
        · intro wz hSw
          go_simp
          all_goals (with_reducible rfl)
        try simp only [Act.put, List.setIfInBounds_toArray, List.set_cons_zero, List.set_cons_succ]
        refine wpAnyH_take (i := 3) (oi := ⟨some 119, .fieldAddr 78 (.tmp 118) 1, 0, "law.go:167", #[⟨2, .data⟩], none⟩) (v := ?_) rfl (by kernel_rfl) (by kernel_rfl) (by kernel_rfl) (fun _ _ _ h => h) (Or.inl ⟨by rfl, ?_⟩) hHeld ?_
        rotate_left
        · intro wz hSw
          go_simp
          all_goals (with_reducible rfl)
        try simp only [Act.put, List.setIfInBounds_toArray, List.set_cons_zero, List.set_cons_succ]
        refine wpAnyH_take (i := 4) (oi := ⟨some 120, .load 32 (.tmp 119), 32, "law.go:167", #[⟨3, .data⟩], none⟩) rfl (by kernel_rfl) (by kernel_rfl) (by kernel_rfl) (fun _ _ _ h => h) (yieldsIf_load_mid (by rfl) _ _ rfl xb (xo + m * 35 + 1) rfl (DF) _ (fun wz h => rF.out wz h) Tryz.underlying32 rfl (i1.out)) hHeld ?_
        try simp only [Act.put, List.setIfInBounds_toArray, List.set_cons_zero, List.set_cons_succ]
        refine wpAnyH_take (i := 5) (oi := ⟨some 121, .move (.tmp 11), 30, "law.go:167", #[], none⟩) (v := ?_) rfl (by kernel_rfl) (by kernel_rfl) (by kernel_rfl) (fun _ _ _ h => h) (Or.inl ⟨by rfl, ?_⟩) hHeld ?_
        rotate_left
        · intro wz hSw
          go_simp
          all_goals (with_reducible rfl)
        try simp only [Act.put, List.setIfInBounds_toArray, List.set_cons_zero, List.set_cons_succ]
        refine wpAnyH_take (i := 6) (oi := ⟨some 122, .move (.tmp 9), 3, "law.go:167", #[], none⟩) (v := ?_) rfl (by kernel_rfl) (by kernel_rfl) (by kernel_rfl) (fun _ _ _ h => h) (Or.inl ⟨by rfl, ?_⟩) hHeld ?_
        rotate_left
        · intro wz hSw
          go_simp
          all_goals (with_reducible rfl)
        try simp only [Act.put, List.setIfInBounds_toArray, List.set_cons_zero, List.set_cons_succ]
        refine wpAnyH_take (i := 7) (oi := ⟨some 123, .indexAddr 30 (.tmp 121) (.tmp 122), 0, "law.go:167", #[⟨5, .data⟩, ⟨6, .data⟩], none⟩) (v := ?_) rfl (by kernel_rfl) (by kernel_rfl) (by kernel_rfl) (fun _ _ _ h => h) (Or.inl ⟨by rfl, ?_⟩) hHeld ?_
        rotate_left
        · intro wz hSw
          go_simp
          all_goals (with_reducible rfl)
        try simp only [Act.put, List.setIfInBounds_toArray, List.set_cons_zero, List.set_cons_succ]
        refine wpAnyH_take (i := 8) (oi := ⟨some 124, .fieldAddr 78 (.tmp 123) 0, 0, "law.go:167", #[⟨7, .data⟩], none⟩) (v := ?_) rfl (by kernel_rfl) (by kernel_rfl) (by kernel_rfl) (fun _ _ _ h => h) (Or.inl ⟨by rfl, ?_⟩) hHeld ?_
        rotate_left
        · intro wz hSw
          go_simp
          all_goals (with_reducible rfl)
        try simp only [Act.put, List.setIfInBounds_toArray, List.set_cons_zero, List.set_cons_succ]
        refine wpAnyH_take (i := 9) (oi := ⟨some 125, .load 3 (.tmp 124), 3, "law.go:167", #[⟨8, .data⟩], none⟩) (v := ?_) rfl (by kernel_rfl) (by kernel_rfl) (by kernel_rfl) (fun _ _ _ h => h) (Or.inl ⟨by rfl, ?_⟩) hHeld ?_
        rotate_left
        · intro wz hSw
          have q := (hx'.out wz hSw).kind
          go_simp
          all_goals (with_reducible rfl)
        try simp only [Act.put, List.setIfInBounds_toArray, List.set_cons_zero, List.set_cons_succ]
        refine wpAnyH_take (i := 10) (oi := ⟨some 126, .move (.tmp 11), 30, "law.go:167", #[], none⟩) (v := ?_) rfl (by kernel_rfl) (by kernel_rfl) (by kernel_rfl) (fun _ _ _ h => h) (Or.inl ⟨by rfl, ?_⟩) hHeld ?_
        rotate_left
        · intro wz hSw
          go_simp
          all_goals (with_reducible rfl)
        try simp only [Act.put, List.setIfInBounds_toArray, List.set_cons_zero, List.set_cons_succ]
        refine wpAnyH_take (i := 11) (oi := ⟨some 127, .move (.tmp 9), 3, "law.go:167", #[], none⟩) (v := ?_) rfl (by kernel_rfl) (by kernel_rfl) (by kernel_rfl) (fun _ _ _ h => h) (Or.inl ⟨by rfl, ?_⟩) hHeld ?_
        rotate_left
        · intro wz hSw
          go_simp
          all_goals (with_reducible rfl)
        try simp only [Act.put, List.setIfInBounds_toArray, List.set_cons_zero, List.set_cons_succ]
        refine wpAnyH_take (i := 12) (oi := ⟨some 128, .indexAddr 30 (.tmp 126) (.tmp 127), 0, "law.go:167", #[⟨10, .data⟩, ⟨11, .data⟩], none⟩) (v := ?_) rfl (by kernel_rfl) (by kernel_rfl) (by kernel_rfl) (fun _ _ _ h => h) (Or.inl ⟨by rfl, ?_⟩) hHeld ?_
        rotate_left
        · intro wz hSw
          go_simp
          all_goals (with_reducible rfl)
        try simp only [Act.put, List.setIfInBounds_toArray, List.set_cons_zero, List.set_cons_succ]
        refine wpAnyH_take (i := 13) (oi := ⟨some 129, .fieldAddr 78 (.tmp 128) 2, 0, "law.go:167", #[⟨12, .data⟩], none⟩) (v := ?_) rfl (by kernel_rfl) (by kernel_rfl) (by kernel_rfl) (fun _ _ _ h => h) (Or.inl ⟨by rfl, ?_⟩) hHeld ?_
        rotate_left
        · intro wz hSw
          go_simp
          all_goals (with_reducible rfl)
        try simp only [Act.put, List.setIfInBounds_toArray, List.set_cons_zero, List.set_cons_succ]
        refine wpAnyH_take (i := 14) (oi := ⟨some 130, .load 76 (.tmp 129), 76, "law.go:167", #[⟨13, .data⟩], none⟩) (v := ?_) rfl (by kernel_rfl) (by kernel_rfl) (by kernel_rfl) (fun _ _ _ h => h) (Or.inl ⟨by rfl, ?_⟩) hHeld ?_
        rotate_left
        · intro wz hSw
          have q := (hx'.out wz hSw).data
          go_simp
          all_goals (with_reducible rfl)
        try simp only [Act.put, List.setIfInBounds_toArray, List.set_cons_zero, List.set_cons_succ]
        refine wpAnyH_ready (rs := [15]) (by kernel_rfl) (by simp) ?_
        refine AllReadyH.cons (o := ⟨some 131, .call { callee := .value (.func 34), args := #[.tmp 125, .tmp 130], argTypes := #[3, 76] }, 32, "law.go:167", #[⟨9, .data⟩, ⟨14, .data⟩], none⟩) rfl (fun K hK => ?_) AllReadyH.nil
        rw [if_pos (by rfl)]
        show Oper.wp _ _ _ _ K _
        go_simp
        go_at_call 34
        refine (digest_any F0.kind ⟨okF.out.lo, okF.out.hi⟩ da (un + 1) dc F0.data _ (HT'.out.below (hbw.out.trans (hHeld.mono hbw.out.size))) (hx'.out _ hHeld).bw (by omega)).mono ?_
        rintro e wq ⟨rfl, hbq⟩
        refine hK.out _ _ (hHeld.trans (hbq.mono hHeld.size)) (fun hHeld => ?_)
        clear hbq
        clear hK K
        try simp only [Act.put, List.setIfInBounds_toArray, List.set_cons_zero, List.set_cons_succ]
        refine wpAnyH_take (i := 16) (oi := ⟨some 132, .binOp .eql 32 (.tmp 120) (.tmp 131) 32, 4, "law.go:167", #[⟨4, .data⟩, ⟨15, .data⟩], none⟩) (v := ?_) rfl (by kernel_rfl) (by kernel_rfl) (by kernel_rfl) (fun _ _ _ h => h) (Or.inl ⟨by rfl, ?_⟩) hHeld ?_
        rotate_left
        · intro wz hSw
          go_simp
          all_goals (with_reducible rfl)
        try simp only [Act.put, List.setIfInBounds_toArray, List.set_cons_zero, List.set_cons_succ]
        refine wpAnyH_take (i := 17) (oi := ⟨some 133, .move (.tmp 132), 4, "law.go:167", #[⟨16, .data⟩, ⟨15, .chain⟩], none⟩) (v := ?_) rfl (by kernel_rfl) (by kernel_rfl) (by kernel_rfl) (fun _ _ _ h => h) (Or.inl ⟨by rfl, ?_⟩) hHeld ?_
        rotate_left
        · intro wz hSw
          go_simp
          all_goals (with_reducible rfl)
        try simp only [Act.put, List.setIfInBounds_toArray, List.set_cons_zero, List.set_cons_succ]
        refine wpAnyH_take (i := 18) (oi := ⟨some 134, .move (.tmp 11), 30, "law.go:167", #[⟨17, .guard⟩], some (17, true)⟩) (v := ?_) rfl (by kernel_rfl) (by kernel_rfl) (by kernel_rfl) (fun _ _ _ h => h) (Or.inl ⟨by rfl, ?_⟩) hHeld ?_
        rotate_left
        · intro wz hSw
          go_simp
          all_goals (with_reducible rfl)
        try simp only [Act.put, List.setIfInBounds_toArray, List.set_cons_zero, List.set_cons_succ]
        refine wpAnyH_take (i := 19) (oi := ⟨some 135, .move (.tmp 9), 3, "law.go:167", #[⟨17, .guard⟩], some (17, true)⟩) (v := ?_) rfl (by kernel_rfl) (by kernel_rfl) (by kernel_rfl) (fun _ _ _ h => h) (Or.inl ⟨by rfl, ?_⟩) hHeld ?_
        rotate_left
        · intro wz hSw
          go_simp
          all_goals (with_reducible rfl)
        try simp only [Act.put, List.setIfInBounds_toArray, List.set_cons_zero, List.set_cons_succ]
        refine wpAnyH_take (i := 20) (oi := ⟨some 136, .indexAddr 30 (.tmp 134) (.tmp 135), 0, "law.go:167", #[⟨18, .data⟩, ⟨19, .data⟩, ⟨17, .guard⟩], some (17, true)⟩) (v := ?_) rfl (by kernel_rfl) (by kernel_rfl) (by kernel_rfl) (fun _ _ _ h => h) (Or.inl ⟨by rfl, ?_⟩) hHeld ?_
        rotate_left
        · intro wz hSw
          go_simp
          all_goals (with_reducible rfl)
        try simp only [Act.put, List.setIfInBounds_toArray, List.set_cons_zero, List.set_cons_succ]
        refine wpAnyH_take (i := 21) (oi := ⟨some 137, .fieldAddr 78 (.tmp 136) 2, 0, "law.go:167", #[⟨20, .data⟩, ⟨17, .guard⟩], some (17, true)⟩) (v := ?_) rfl (by kernel_rfl) (by kernel_rfl) (by kernel_rfl) (fun _ _ _ h => h) (Or.inl ⟨by rfl, ?_⟩) hHeld ?_
        rotate_left
        · intro wz hSw
          go_simp
          all_goals (with_reducible rfl)
        try simp only [Act.put, List.setIfInBounds_toArray, List.set_cons_zero, List.set_cons_succ]
        refine wpAnyH_take (i := 22) (oi := ⟨some 138, .load 76 (.tmp 137), 76, "law.go:167", #[⟨21, .data⟩, ⟨17, .guard⟩], some (17, true)⟩) (v := ?_) rfl (by kernel_rfl) (by kernel_rfl) (by kernel_rfl) (fun _ _ _ h => h) (Or.inl ⟨by rfl, ?_⟩) hHeld ?_
        rotate_left
        · intro wz hSw
          have q := (hx'.out wz hSw).data
          go_simp
          all_goals (with_reducible rfl)
        try simp only [Act.put, List.setIfInBounds_toArray, List.set_cons_zero, List.set_cons_succ]
        refine wpAnyH_take (i := 23) (oi := ⟨some 139, .call { callee := .builtin .len, args := #[.tmp 138], argTypes := #[76] }, 3, "law.go:167", #[⟨22, .data⟩, ⟨17, .guard⟩], some (17, true)⟩) (v := ?_) rfl (by kernel_rfl) (by kernel_rfl) (by kernel_rfl) (fun _ _ _ h => h) (Or.inl ⟨by rfl, ?_⟩) hHeld ?_
        rotate_left
        · intro wz hSw
          go_simp
          all_goals (with_reducible rfl)
        try simp only [Act.put, List.setIfInBounds_toArray, List.set_cons_zero, List.set_cons_succ]
        refine wpAnyH_take (i := 24) (oi := ⟨some 140, .move (.tmp 7), 30, "law.go:167", #[⟨17, .guard⟩], some (17, true)⟩) (v := ?_) rfl (by kernel_rfl) (by kernel_rfl) (by kernel_rfl) (fun _ _ _ h => h) (Or.inl ⟨by rfl, ?_⟩) hHeld ?_
        rotate_left
        · intro wz hSw
          go_simp
          all_goals (with_reducible rfl)
        try simp only [Act.put, List.setIfInBounds_toArray, List.set_cons_zero, List.set_cons_succ]
        refine wpAnyH_take (i := 25) (oi := ⟨some 141, .move (.tmp 9), 3, "law.go:167", #[⟨17, .guard⟩], some (17, true)⟩) (v := ?_) rfl (by kernel_rfl) (by kernel_rfl) (by kernel_rfl) (fun _ _ _ h => h) (Or.inl ⟨by rfl, ?_⟩) hHeld ?_
        rotate_left
        · intro wz hSw
          go_simp
          all_goals (with_reducible rfl)
        try simp only [Act.put, List.setIfInBounds_toArray, List.set_cons_zero, List.set_cons_succ]
        refine wpAnyH_take (i := 26) (oi := ⟨some 142, .indexAddr 30 (.tmp 140) (.tmp 141), 0, "law.go:167", #[⟨24, .data⟩, ⟨25, .data⟩, ⟨17, .guard⟩], some (17, true)⟩) (v := ?_) rfl (by kernel_rfl) (by kernel_rfl) (by kernel_rfl) (fun _ _ _ h => h) (Or.inl ⟨by rfl, ?_⟩) hHeld ?_
        rotate_left
        · intro wz hSw
          go_simp
          all_goals (with_reducible rfl)
        try simp only [Act.put, List.setIfInBounds_toArray, List.set_cons_zero, List.set_cons_succ]
        refine wpAnyH_take (i := 27) (oi := ⟨some 143, .fieldAddr 78 (.tmp 142) 2, 0, "law.go:167", #[⟨26, .data⟩, ⟨17, .guard⟩], some (17, true)⟩) (v := ?_) rfl (by kernel_rfl) (by kernel_rfl) (by kernel_rfl) (fun _ _ _ h => h) (Or.inl ⟨by rfl, ?_⟩) hHeld ?_
        rotate_left
        · intro wz hSw
          go_simp
          all_goals (with_reducible rfl)
        try simp only [Act.put, List.setIfInBounds_toArray, List.set_cons_zero, List.set_cons_succ]
        refine wpAnyH_take (i := 28) (oi := ⟨some 144, .load 76 (.tmp 143), 76, "law.go:167", #[⟨27, .data⟩, ⟨17, .guard⟩], some (17, true)⟩) (v := ?_) rfl (by kernel_rfl) (by kernel_rfl) (by kernel_rfl) (fun _ _ _ h => h) (Or.inl ⟨by rfl, ?_⟩) hHeld ?_
        rotate_left
        · intro wz hSw
          have q := (ht'.out wz hSw).data
          go_simp
          all_goals (with_reducible rfl)
        try simp only [Act.put, List.setIfInBounds_toArray, List.set_cons_zero, List.set_cons_succ]
        refine wpAnyH_take (i := 29) (oi := ⟨some 145, .call { callee := .builtin .len, args := #[.tmp 144], argTypes := #[76] }, 3, "law.go:167", #[⟨28, .data⟩, ⟨17, .guard⟩], some (17, true)⟩) (v := ?_) rfl (by kernel_rfl) (by kernel_rfl) (by kernel_rfl) (fun _ _ _ h => h) (Or.inl ⟨by rfl, ?_⟩) hHeld ?_
        rotate_left
        · intro wz hSw
          go_simp
          all_goals (with_reducible rfl)
        try simp only [Act.put, List.setIfInBounds_toArray, List.set_cons_zero, List.set_cons_succ]
        refine wpAnyH_take (i := 30) (oi := ⟨some 146, .binOp .add 3 (.tmp 145) (.const (.int .i64 1)) 3, 3, "law.go:167", #[⟨29, .data⟩, ⟨17, .guard⟩], some (17, true)⟩) (v := ?_) rfl (by kernel_rfl) (by kernel_rfl) (by kernel_rfl) (fun _ _ _ h => h) (Or.inl ⟨by rfl, ?_⟩) hHeld ?_
        rotate_left
        · intro wz hSw
          go_simp
          all_goals (with_reducible rfl)
        try simp only [Act.put, List.setIfInBounds_toArray, List.set_cons_zero, List.set_cons_succ]
        refine wpAnyH_take (i := 31) (oi := ⟨some 147, .binOp .eql 3 (.tmp 139) (.tmp 146) 3, 4, "law.go:167", #[⟨23, .data⟩, ⟨30, .data⟩, ⟨17, .guard⟩], some (17, true)⟩) (v := ?_) rfl (by kernel_rfl) (by kernel_rfl) (by kernel_rfl) (fun _ _ _ h => h) (Or.inl ⟨by rfl, ?_⟩) hHeld ?_
        rotate_left
        · intro wz hSw
          go_simp
          all_goals (with_reducible rfl)
        try simp only [Act.put, List.setIfInBounds_toArray, List.set_cons_zero, List.set_cons_succ]
        refine wpAnyH_take (i := 32) (oi := ⟨some 148, .pick (.tmp 133) (.tmp 147) (.const (.bool false)), 4, "law.go:167", #[⟨17, .data⟩, ⟨31, .data⟩], none⟩) (v := ?_) rfl (by kernel_rfl) (by kernel_rfl) (by kernel_rfl) (fun _ _ _ h => h) (Or.inl ⟨by rfl, ?_⟩) hHeld ?_
        rotate_left
        · intro wz hSw
          go_simp
          all_goals (with_reducible rfl)
        try simp only [Act.put, List.setIfInBounds_toArray, List.set_cons_zero, List.set_cons_succ]
        refine wpAnyH_take (i := 33) (oi := ⟨some 149, .move (.tmp 148), 4, "law.go:167", #[⟨32, .data⟩, ⟨17, .chain⟩], none⟩) (v := ?_) rfl (by kernel_rfl) (by kernel_rfl) (by kernel_rfl) (fun _ _ _ h => h) (Or.inl ⟨by rfl, ?_⟩) hHeld ?_
        rotate_left
        · intro wz hSw
          go_simp
          all_goals (with_reducible rfl)
        try simp only [Act.put, List.setIfInBounds_toArray, List.set_cons_zero, List.set_cons_succ]
        refine wpAnyH_take (i := 34) (oi := ⟨some 150, .move (.tmp 14), 4, "law.go:167", #[⟨33, .guard⟩], some (33, true)⟩) (v := ?_) rfl (by kernel_rfl) (by kernel_rfl) (by kernel_rfl) (fun _ _ _ h => h) (Or.inl ⟨by rfl, ?_⟩) hHeld ?_
        rotate_left
        · intro wz hSw
          go_simp
          all_goals (with_reducible rfl)
        try simp only [Act.put, List.setIfInBounds_toArray, List.set_cons_zero, List.set_cons_succ]
        refine wpAnyH_take (i := 35) (oi := ⟨some 151, .move (.tmp 11), 30, "law.go:167", #[⟨33, .guard⟩], some (33, true)⟩) (v := ?_) rfl (by kernel_rfl) (by kernel_rfl) (by kernel_rfl) (fun _ _ _ h => h) (Or.inl ⟨by rfl, ?_⟩) hHeld ?_
        rotate_left
        · intro wz hSw
          go_simp
          all_goals (with_reducible rfl)
        try simp only [Act.put, List.setIfInBounds_toArray, List.set_cons_zero, List.set_cons_succ]
        refine wpAnyH_take (i := 36) (oi := ⟨some 152, .move (.tmp 9), 3, "law.go:167", #[⟨33, .guard⟩], some (33, true)⟩) (v := ?_) rfl (by kernel_rfl) (by kernel_rfl) (by kernel_rfl) (fun _ _ _ h => h) (Or.inl ⟨by rfl, ?_⟩) hHeld ?_
        rotate_left
        · intro wz hSw
          go_simp
          all_goals (with_reducible rfl)
        try simp only [Act.put, List.setIfInBounds_toArray, List.set_cons_zero, List.set_cons_succ]
        refine wpAnyH_take (i := 37) (oi := ⟨some 153, .indexAddr 30 (.tmp 151) (.tmp 152), 0, "law.go:167", #[⟨35, .data⟩, ⟨36, .data⟩, ⟨33, .guard⟩], some (33, true)⟩) (v := ?_) rfl (by kernel_rfl) (by kernel_rfl) (by kernel_rfl) (fun _ _ _ h => h) (Or.inl ⟨by rfl, ?_⟩) hHeld ?_
        rotate_left
        · intro wz hSw
          go_simp
          all_goals (with_reducible rfl)
        try simp only [Act.put, List.setIfInBounds_toArray, List.set_cons_zero, List.set_cons_succ]
        refine wpAnyH_take (i := 38) (oi := ⟨some 154, .fieldAddr 78 (.tmp 153) 1, 0, "law.go:167", #[⟨37, .data⟩, ⟨33, .guard⟩], some (33, true)⟩) (v := ?_) rfl (by kernel_rfl) (by kernel_rfl) (by kernel_rfl) (fun _ _ _ h => h) (Or.inl ⟨by rfl, ?_⟩) hHeld ?_
        rotate_left
        · intro wz hSw
          go_simp
          all_goals (with_reducible rfl)
        try simp only [Act.put, List.setIfInBounds_toArray, List.set_cons_zero, List.set_cons_succ]
        refine wpAnyH_take (i := 39) (oi := ⟨some 155, .load 32 (.tmp 154), 32, "law.go:167", #[⟨38, .data⟩, ⟨33, .guard⟩], some (33, true)⟩) rfl (by kernel_rfl) (by kernel_rfl) (by kernel_rfl) (fun _ _ _ h => h) (yieldsIf_load_mid (by rfl) _ _ rfl xb (xo + m * 35 + 1) rfl (DF) _ (fun wz h => rF.out wz h) Tryz.underlying32 rfl (i1.out)) hHeld ?_
        try simp only [Act.put, List.setIfInBounds_toArray, List.set_cons_zero, List.set_cons_succ]
        refine wpAnyH_take (i := 40) (oi := ⟨some 156, .move (.tmp 7), 30, "law.go:167", #[⟨33, .guard⟩], some (33, true)⟩) (v := ?_) rfl (by kernel_rfl) (by kernel_rfl) (by kernel_rfl) (fun _ _ _ h => h) (Or.inl ⟨by rfl, ?_⟩) hHeld ?_
        rotate_left
        · intro wz hSw
          go_simp
          all_goals (with_reducible rfl)
        try simp only [Act.put, List.setIfInBounds_toArray, List.set_cons_zero, List.set_cons_succ]
        refine wpAnyH_take (i := 41) (oi := ⟨some 157, .move (.tmp 9), 3, "law.go:167", #[⟨33, .guard⟩], some (33, true)⟩) (v := ?_) rfl (by kernel_rfl) (by kernel_rfl) (by kernel_rfl) (fun _ _ _ h => h) (Or.inl ⟨by rfl, ?_⟩) hHeld ?_
        rotate_left
        · intro wz hSw
          go_simp
          all_goals (with_reducible rfl)
        try simp only [Act.put, List.setIfInBounds_toArray, List.set_cons_zero, List.set_cons_succ]
        refine wpAnyH_take (i := 42) (oi := ⟨some 158, .indexAddr 30 (.tmp 156) (.tmp 157), 0, "law.go:167", #[⟨40, .data⟩, ⟨41, .data⟩, ⟨33, .guard⟩], some (33, true)⟩) (v := ?_) rfl (by kernel_rfl) (by kernel_rfl) (by kernel_rfl) (fun _ _ _ h => h) (Or.inl ⟨by rfl, ?_⟩) hHeld ?_
        rotate_left
        · intro wz hSw
          go_simp
          all_goals (with_reducible rfl)
        try simp only [Act.put, List.setIfInBounds_toArray, List.set_cons_zero, List.set_cons_succ]
        refine wpAnyH_take (i := 43) (oi := ⟨some 159, .fieldAddr 78 (.tmp 158) 1, 0, "law.go:167", #[⟨42, .data⟩, ⟨33, .guard⟩], some (33, true)⟩) (v := ?_) rfl (by kernel_rfl) (by kernel_rfl) (by kernel_rfl) (fun _ _ _ h => h) (Or.inl ⟨by rfl, ?_⟩) hHeld ?_
        rotate_left
        · intro wz hSw
          go_simp
          all_goals (with_reducible rfl)
        try simp only [Act.put, List.setIfInBounds_toArray, List.set_cons_zero, List.set_cons_succ]
        refine wpAnyH_take (i := 44) (oi := ⟨some 160, .load 32 (.tmp 159), 32, "law.go:167", #[⟨43, .data⟩, ⟨33, .guard⟩], some (33, true)⟩) rfl (by kernel_rfl) (by kernel_rfl) (by kernel_rfl) (fun _ _ _ h => h) (yieldsIf_load_mid (by rfl) _ _ rfl tb (tof + m * 35 + 1) rfl (DE) _ (fun wz h => rE.out wz h) Tryz.underlying32 rfl (i2.out)) hHeld ?_
        try simp only [Act.put, List.setIfInBounds_toArray, List.set_cons_zero, List.set_cons_succ]
        refine wpAnyH_take (i := 45) (oi := ⟨some 161, .binOp .neq 32 (.tmp 155) (.tmp 160) 32, 4, "law.go:167", #[⟨39, .data⟩, ⟨44, .data⟩, ⟨33, .guard⟩], some (33, true)⟩) (v := ?_) rfl (by kernel_rfl) (by kernel_rfl) (by kernel_rfl) (fun _ _ _ h => h) (Or.inl ⟨by rfl, ?_⟩) hHeld ?_
        rotate_left
        · intro wz hSw
          go_simp
          all_goals (with_reducible rfl)
        try simp only [Act.put, List.setIfInBounds_toArray, List.set_cons_zero, List.set_cons_succ]
        refine wpAnyH_take (i := 46) (oi := ⟨some 162, .binOp .eql 4 (.tmp 150) (.tmp 161) 4, 4, "law.go:167", #[⟨34, .data⟩, ⟨45, .data⟩, ⟨33, .guard⟩], some (33, true)⟩) (v := ?_) rfl (by kernel_rfl) (by kernel_rfl) (by kernel_rfl) (fun _ _ _ h => h) (Or.inl ⟨by rfl, ?_⟩) hHeld ?_
        rotate_left
        · intro wz hSw
          go_simp
          all_goals (with_reducible rfl)
        try simp only [Act.put, List.setIfInBounds_toArray, List.set_cons_zero, List.set_cons_succ]
        refine wpAnyH_take (i := 47) (oi := ⟨some 163, .pick (.tmp 149) (.tmp 162) (.const (.bool false)), 4, "law.go:167", #[⟨33, .data⟩, ⟨46, .data⟩], none⟩) (v := ?_) rfl (by kernel_rfl) (by kernel_rfl) (by kernel_rfl) (fun _ _ _ h => h) (Or.inl ⟨by rfl, ?_⟩) hHeld ?_
        rotate_left
        · intro wz hSw
          go_simp
          all_goals (with_reducible rfl)
        try simp only [Act.put, List.setIfInBounds_toArray, List.set_cons_zero, List.set_cons_succ]
        refine wpAnyH_take (i := 48) (oi := ⟨some 6, .assign (.tmp 163), 4, "law.go:167", #[⟨47, .data⟩, ⟨33, .chain⟩, ⟨0, .phase⟩, ⟨1, .phase⟩, ⟨2, .phase⟩, ⟨3, .phase⟩, ⟨4, .phase⟩, ⟨5, .phase⟩, ⟨6, .phase⟩, ⟨7, .phase⟩, ⟨8, .phase⟩, ⟨9, .phase⟩, ⟨10, .phase⟩, ⟨11, .phase⟩, ⟨12, .phase⟩, ⟨13, .phase⟩, ⟨14, .phase⟩, ⟨15, .phase⟩, ⟨16, .phase⟩, ⟨17, .phase⟩, ⟨18, .phase⟩, ⟨19, .phase⟩, ⟨20, .phase⟩, ⟨21, .phase⟩, ⟨22, .phase⟩, ⟨23, .phase⟩, ⟨24, .phase⟩, ⟨25, .phase⟩, ⟨26, .phase⟩, ⟨27, .phase⟩, ⟨28, .phase⟩, ⟨29, .phase⟩, ⟨30, .phase⟩, ⟨31, .phase⟩, ⟨32, .phase⟩, ⟨33, .phase⟩, ⟨34, .phase⟩, ⟨35, .phase⟩, ⟨36, .phase⟩, ⟨37, .phase⟩, ⟨38, .phase⟩, ⟨39, .phase⟩, ⟨40, .phase⟩, ⟨41, .phase⟩, ⟨42, .phase⟩, ⟨43, .phase⟩, ⟨44, .phase⟩, ⟨45, .phase⟩, ⟨46, .phase⟩, ⟨47, .phase⟩], none⟩) (v := ?_) rfl (by kernel_rfl) (by kernel_rfl) (by kernel_rfl) (fun _ _ _ h => h) (Or.inl ⟨by rfl, ?_⟩) hHeld ?_
        rotate_left
        · intro wz hSw
          go_simp
          all_goals (with_reducible rfl)
        try simp only [Act.put, List.setIfInBounds_toArray, List.set_cons_zero, List.set_cons_succ]
        refine wpAnyH_done (by kernel_rfl) ?_ _
        have hf0 := Lib.hid (hfin.out _ (hbw.out.trans (hHeld.mono hbw.out.size)))
        clear hHeld
        go_wp2_with fail
        exact hf0.out
end Go.Proofs.YtiionehcmoginaaGreatDoor
namespace Go.Proofs.YtiionehcmoginaaGreatDoor.lawLForked
open Go.ChangeShapes Go.WideShapes Go.ChangeAt Go.RowKit Go.Mem
open Go.Proofs.YtiionehcmoginaaGreatDoor

set_option maxRecDepth 100000 in
theorem lifted (os : Os) (started : os.Started) (H : Type) (enc : TypeId × Value → H) :
 ReturnsInHanded {} Tryz.checked os 7 .any (fun w args => (Rows.liarForkedSpec.pre enc Tryz.prog Tryz.f7 [] false w args ∧ laidMetH Tryz.prog laid2 w) ∧ sizedMet enc Tryz.prog Tryz.f7 (OpenSpec.ofChange Rows.liarForkedSpec) false w args)
  (Rows.liarForkedSpec.post enc Tryz.prog Tryz.f7 false true false false) := by
 refine returnsInHanded_of_change_and (C := Tryz.checked) (X := fun w _ => laidMetH Tryz.prog laid2 w) (fun _ _ _ hh h => h.of_heap hh) own started (by kernel_rfl) Tryz.func7
  (ChangeSpec.witness_shaped (enc := enc) (C := Tryz.checked) (os := os) (X := fun w _ => laidMetH Tryz.prog laid2 w) false (World.doorLaid Tryz.prog 400 os) #[.agg (stC ⟨0, 0, []⟩ none 0 0).toArray, .int .i64 0, .int .u64 0] 8 rfl (World.shaped_of_RefB (by kernel_rfl) (by kernel_rfl)) (by kernel_rfl) (by kernel_rfl) (by kernel_rfl) (door_met os _)) ?_
 intro W base args ds gs before hval0 hW _ hwt hL _
 have hval : ∀ (j : Nat) t v, Tryz.f7.params[j]? = some t → args[j]? = some v → Value.okWide Tryz.prog W .any base t v := hval0
 have hW' := hW
 obtain ⟨p, q, hA0, hV, rfl, hfz, hnd⟩ := hW
 have hA : DataW.TrodAll enc Tryz.prog W 0 (fun _ => true) true Tryz.f7.params.toList args.toList ds p := hA0
 rw [Tryz.params7] at hA hval
 obtain ⟨v0, vs0, d0, ds0, p0, q0, hargs, rfl, rfl, h0, r0⟩ := trodAll_cons hA
 obtain ⟨v1, vs1, d1, ds1, p1, q1, rfl, rfl, rfl, h1, r1⟩ := trodAll_cons r0
 obtain ⟨v2, vs2, d2, ds2, p2, q2, rfl, rfl, rfl, h2, r2⟩ := trodAll_cons r1
 obtain ⟨rfl, rfl, rfl⟩ := trodAll_nil r2
 obtain rfl : args = #[v0, v1, v2] := by cases args; simp_all
 obtain ⟨rfl, rfl⟩ := trodVars_none hV
 have lt0 : ∀ x ∈ p0, x.block < W.heap.size := by obtain ⟨m, hm⟩ := h0; exact DataW.trod_lt m _ _ _ hm
 have lt1 : ∀ x ∈ p1, x.block < W.heap.size := by obtain ⟨m, hm⟩ := h1; exact DataW.trod_lt m _ _ _ hm
 have lt2 : ∀ x ∈ p2, x.block < W.heap.size := by obtain ⟨m, hm⟩ := h2; exact DataW.trod_lt m _ _ _ hm
 have k0' := h0
 have k1' := h1
 have k2' := h2
 obtain ⟨cs0, rfl, _⟩ := okWide_struct Tryz.underlying24 (hval 0 24 v0 rfl rfl)
 obtain ⟨m0, hm0⟩ := h0
 obtain ⟨s0, a0, n0, c0, e0, S0⟩ := open_store (cs := cs0.toList) (by simpa [Value.cells] using hm0)
 obtain rfl : cs0 = (stC s0 a0 n0 c0).toArray := by rw [← e0]
 clear hm0 e0
 obtain ⟨x1, rfl⟩ := okWide_int Tryz.underlying3 (hval 1 3 v1 rfl rfl)
 obtain ⟨m1, hm1⟩ := h1
 obtain ⟨x1', e1, i1⟩ := open_int1 (cs := [.int .i64 x1]) (by simpa [Value.cells] using hm1)
 obtain rfl : x1 = x1' := by simpa using e1
 clear hm1 e1
 obtain ⟨z2, rfl⟩ := okWide_int Tryz.underlying73 (hval 2 73 v2 rfl rfl)
 obtain ⟨m2, hm2⟩ := h2
 obtain ⟨x2, e2, i2⟩ := open_uint (cs := [.int .u64 z2]) (by simpa [Value.cells] using hm2)
 obtain rfl : z2 = (x2 : Int) := by simpa using e2
 clear hm2 e2
 have hT := tabs_of_laid hL
 clear hA0 hval0
 refine (lforked_walk s0 a0 n0 c0 x1 i1 x2 i2 W hT S0).mono fun e W' ⟨he, bel⟩ => ?_
 subst he
 exact ⟨_, rfl, _, _, _, [], _, [], hW', trodAll_mk1 (shut_bool Tryz.underlying4 _),
  (trodAll_cons_mk (Below.trod laidOut (by kernel_rfl) (of_decide_eq_true (by kernel_rfl)) k0' bel lt0) (trodAll_cons_mk (Below.trod laidOut (by kernel_rfl) (of_decide_eq_true (by kernel_rfl)) k1' bel lt1) (trodAll_cons_mk (Below.trod laidOut (by kernel_rfl) (of_decide_eq_true (by kernel_rfl)) k2' bel lt2) trodAll_mk0))), rfl, bel.frame _, fun h => by cases h⟩

theorem over : Rows.LiarForkedSaid :=
 OpenClaim.holds_of_wide 7 Tryz.f7 rfl rfl rfl rfl rfl rfl rfl ⟨rfl, rfl, rfl, rfl, rfl⟩ rfl rfl rfl rfl rfl (by kernel_rfl) Tryz.func7 (by kernel_rfl)
  (of_decide_eq_true (by kernel_rfl)) (by unfold Func.isWrapper; first | (rw [if_pos (by decide +kernel)]; kernel_rfl) | (rw [if_neg (by decide +kernel)]; exact ⟨rfl, rfl⟩))
  (fun os started H enc _ => lifted os started H enc)

theorem proved : Rows.LiarForkedCardSaid :=
 Claim7.holds_tied_plain_at .later [] [.data, .data] true (true, "61e2f70981a8c0bfaff58b11096e9b014427882e52d813c9818ce2f80f8e3bab") false
  over (fun _ h => by cases h) (by kernel_rfl) (fun _ h => by cases h) liarForked_row_tie rfl ⟨rfl, rfl⟩ (by kernel_rfl) rfl
  (fun f fn hf hfn => by
   obtain rfl : f = 7 := Option.some.inj ((show Tryz.prog.funcNamed "chartroom/chartroomlaw31.LiarForked" = some 7 by kernel_rfl).symm.trans hf) |>.symm
   obtain rfl : fn = Tryz.f7 := (Option.some.inj (Tryz.func7.symm.trans hfn)).symm
   exact ⟨by kernel_rfl, fun j t ht => by
    rw [Tryz.params7] at ht
    have hm : t ∈ [24, 3, 73] := by simpa using Array.mem_of_getElem? ht
    have hall : ([24, 3, 73].all fun u => !Tryz.prog.wantsStandIn u) = true := by kernel_rfl
    exact (show Tryz.prog.wantsStandIn t = false by simpa using List.all_eq_true.1 hall t hm)⟩)
  (by kernel_rfl)
#print axioms proved
end Go.Proofs.YtiionehcmoginaaGreatDoor.lawLForked

