/- views.Prove views.Compare -/
import Derived.Test.YtnonfdcbnkdmcaaGreatDoorAl
import Derived.Test.YtnonfdcbnkdmcaaGreatDoorVwC
namespace Go
theorem wp_once {P : Program} {c : Code} {Q : Exit → Act → World → Prop} {a : Act} {w : World} (F : Nat → Nat → Act) (R : Nat → Nat → World → Prop) (h : (∀ x y W, R x y W → Q .normal (F x y) W) → c.wp P Q a w) (key : ∀ x y W, R x y W → Q .normal (F x y) W) : c.wp P Q a w := h key
end Go
namespace Go.Proofs.YtnonfdcbnkdmcaaGreatDoor
open Go.RowKit Go.Mem Go.Shelf
open Go.Vw (Hd Fk fitsB verH proveB proveV)

theorem forkC_a {f : Fk} (_ok : OkF f) {W : World} {g : Nat} {t : TypeId} {a : Option Addr} {n c : Nat} (hB : Blk W g t (forkC f a n c)) : W.rangeAt g 0 (hdC f.a) := fun j v hv => by
 rw [Nat.zero_add]
 refine hB.at_ ?_
 unfold forkC
 rw [List.getElem?_append_left (List.getElem?_eq_some_iff.1 hv).1]
 exact hv
theorem forkC_b {f : Fk} (ok : OkF f) {W : World} {g : Nat} {t : TypeId} {a : Option Addr} {n c : Nat} (hB : Blk W g t (forkC f a n c)) : W.rangeAt g 37 (hdC f.b) := fun j v hv => by
 refine hB.at_ ?_
 unfold forkC
 rw [List.getElem?_append_right (by rw [hdC_len ok.a]; omega), hdC_len ok.a, Nat.add_sub_cancel_left, List.getElem?_append_left (List.getElem?_eq_some_iff.1 hv).1]
 exact hv
theorem forkC_74 {f : Fk} (ok : OkF f) (a : Option Addr) (n c : Nat) : (forkC f a n c)[74]? = some (.slice a n c) := by
 unfold forkC
 rw [List.getElem?_append_right (by rw [hdC_len ok.a]; omega), hdC_len ok.a, List.getElem?_append_right (by rw [hdC_len ok.b]; omega), hdC_len ok.b]
 rfl

structure ProB (w : World) (tb : Nat) (f : Fk) (fa : Option Addr) (fn fc : Nat) (qa qb : Nat) (W : World) : Prop where
 bF : Blk W tb 53 (forkC f fa fn fc)
 bA : Blk W qa 36 (hdC f.a)
 bB : Blk W qb 36 (hdC f.b)
 bel : Below w.heap.size w W
theorem ProB.below {w W W' : World} {tb fn fc qa qb : Nat} {f : Fk} {fa : Option Addr} (h : ProB w tb f fa fn fc qa qb W) (hb : Below W.heap.size W W') : ProB w tb f fa fn fc qa qb W' :=
 ⟨h.bF.below hb h.bF.lt, h.bA.below hb h.bA.lt, h.bB.below hb h.bB.lt, h.bel.trans (hb.mono h.bel.size)⟩

set_option maxRecDepth 100000 in
set_option maxHeartbeats 8000000 in
theorem prove_any (pub : Int) (hp : I64 pub) (f : Fk) (ok : OkF f) (fa : Option Addr) (fn fc : Nat) (w : World) (HT : Tabs w) (H : DS w fa fn fc f.ds) (hbd : fn ≤ 100000) :
 Calls Tryz.prog 32 #[.int .i64 pub, .agg (forkC f fa fn fc).toArray] w (RetI (proveV pub f) w) := by
 have H' := Lib.hid H; have HT' := Lib.hid HT
 have hlen := H.len
 have f63 : (fn : Int) ≤ 100000 := by omega
 clear H HT
 obtain ⟨tb, htb⟩ : ∃ tb, Hid (w.heap.size = tb) := ⟨_, rfl⟩
 obtain ⟨W1, hW1⟩ : ∃ W1, W1 = w.alloc (.cells (forkC f fa fn fc).toArray 53) := ⟨_, rfl⟩
 have hbf : Hid (Blk W1 tb 53 (forkC f fa fn fc)) := by rw [hW1, ← htb.out]; exact Blk.new w _ _
 have hb1 : Hid (Below w.heap.size w W1) := by rw [hW1]; exact (Below.refl _ w).alloc (Nat.le_refl _) _
 obtain ⟨X, hX⟩ : ∃ X, X = RetI (proveV pub f) w := ⟨_, rfl⟩
 have hret : Hid (∀ W n, proveV pub f = n → Below w.heap.size w W → X (.returned (.int .i64 n)) W) := fun W n hn h => by rw [hX, hn]; exact ⟨rfl, h⟩
 rw [← hX]
 clear hX
 have hria := infoHd ok.a
 have hrib := infoHd ok.b
 have h74 := forkC_74 ok fa fn fc
 have hva := Lib.hid (fun W hT => verH_any pub f.a hp ok.a W hT)
 have hvb := Lib.hid (fun W hT => verH_any pub f.b hp ok.b W hT)
 have hfa := Lib.hid (fun W hT hS => fits_any f.a ok.a fa fn fc f.ds W hT hS hbd)
 have hfb := Lib.hid (fun W hT hS => fits_any f.b ok.b fa fn fc f.ds W hT hS hbd)
 have hP : Hid (proveV pub f = if (verH pub f.a && verH pub f.b && decide (f.a.st = f.b.st) && decide (f.a.fo = f.b.fo) && decide (f.a.no ≤ f.b.no) && decide (f.b.no = (fn : Int)) && fitsB f.b f.ds && !fitsB f.a f.ds) then 0 else 321) := by show _ = _; rw [← hlen]; rfl
 obtain ⟨va, eva⟩ : ∃ x, Hid (verH pub f.a = x) := ⟨_, rfl⟩
 obtain ⟨vb, evb⟩ : ∃ x, Hid (verH pub f.b = x) := ⟨_, rfl⟩
 obtain ⟨ta, eta⟩ : ∃ x, Hid (fitsB f.a f.ds = x) := ⟨_, rfl⟩
 obtain ⟨tq, etq⟩ : ∃ x, Hid (fitsB f.b f.ds = x) := ⟨_, rfl⟩
 rw [eva.out] at hva hP
 rw [evb.out] at hvb hP
 rw [eta.out] at hfa hP
 rw [etq.out] at hfb hP
 clear eva evb eta etq
 have x0a := hdC_0 f.a; have x1a := hdC_1 f.a; have x2a := hdC_2 f.a
 have x0b := hdC_0 f.b; have x1b := hdC_1 f.b; have x2b := hdC_2 f.b
 have ok' := Lib.hid ok
 clear ok
 go_enter Tryz.func32, Tryz.ntmps32
 go_upto_region 1 with fail
 rw [htb.out]
 generalize hWq : w.alloc _ = Wq
 obtain rfl : W1 = Wq := by rw [← hWq, hW1]
 clear hWq hW1
 refine wp_once (fun qa qb => { tmps := #[.int .i64 pub, .agg (forkC f fa fn fc).toArray, undef, .pointer (some ⟨tb, 0, none⟩), .int .i64 0, .pointer (some ⟨qa, 0, none⟩), .pointer (some ⟨qb, 0, none⟩), .pointer (some ⟨tb, 0, none⟩), .agg (hdC f.a).toArray, .pointer (some ⟨tb, 37, none⟩), .agg (hdC f.b).toArray, undef, undef, undef, undef, undef, undef, undef, undef, undef, undef, undef, undef, undef, undef, undef, undef, undef, undef, undef, undef, undef, undef, undef, undef, undef, undef, undef, undef, undef, undef, undef, undef, undef, undef, undef, undef, undef, undef, undef, undef, undef, undef, undef, undef, undef, undef, undef, undef, undef, undef, undef, undef], defers := [] }) (fun qa qb W => Hid (ProB w tb f fa fn fc qa qb W)) ?h ?key
 case h =>
  intro key
  have key' := Lib.hid key
  clear key x0a x1a x2a x0b x1b x2b h74 hva hvb hfa hfb hret hP
  refine wp_region_held_drew (S := fun wz => Blk wz tb 53 (forkC f fa fn fc) ∧ Below w.heap.size w wz) (by kernel_rfl) (⟨hbf.out, hb1.out.drew⟩) (fun hHeld => ?_)
  refine tQ 0 rfl hHeld ?_
  refine tY 1 rfl tb 0 (hdC f.a) (fun wz h => forkC_a ok'.out h.1) Tryz.underlying36 hria.out hHeld ?_
  refine tQ 2 rfl hHeld ?_
  refine tY 3 rfl tb 37 (hdC f.b) (fun wz h => forkC_b ok'.out h.1) Tryz.underlying36 hrib.out hHeld ?_
  refine rd (rs := [4, 5]) ?_
  refine tR rfl (fun K hK => ?_) (tR rfl (fun K hK => ?_) rn)
  case refine_1 =>
   go_simp
   refine hK.out _ _ ⟨(hHeld.1.alloc _), hHeld.2.alloc hHeld.2.size _⟩ (fun hHeld => ?_)
   clear hK K
   try simp only [Act.put, sA, s0, s1]
   refine tO 5 rfl (fun K hK => ?_)
   go_simp
   refine hK.out _ _ ⟨(hHeld.1.alloc _), hHeld.2.alloc hHeld.2.size _⟩ (fun hHeld => ?_)
   clear hK K
   try simp only [Act.put, sA, s0, s1]
   have hB1 := (Blk.new W1.drew 36 zrH).alloc (.cells zrH.toArray 36)
   have hB2 := Blk.new (W1.drew.alloc (.cells zrH.toArray 36)) 36 zrH
   rw [World.size_alloc] at hB2
   have hB1 : Blk ((W1.drew.alloc (.cells zrH.toArray 36)).alloc (.cells zrH.toArray 36)) W1.heap.size 36 zrH := hB1
   have hB2 : Blk ((W1.drew.alloc (.cells zrH.toArray 36)).alloc (.cells zrH.toArray 36)) (W1.heap.size + 1) 36 zrH := hB2
   have hlt := hbf.out.lt
   have hsz := hb1.out.size
   obtain ⟨W3, hQ⟩ := put_row (ty := 36) hB1 (x := hdC f.a) (by rw [hdC_len ok'.out.a]; rfl) (by rw [hdC_len ok'.out.a]; exact sizeH) (hdC_r ok'.out.a).one
   have hF3 := hHeld.1.grown hQ.grown (fun e => by injection e with e; omega)
   have hb3 := below_grown hHeld.2 hQ.grown hHeld.2.size (by omega)
   refine tO 6 rfl (fun K hK => ?_)
   refine wp_store_mid 36 _ _ rfl W1.heap.size 0 (hdC f.a).toArray (by rfl) (by rfl) hQ.there hQ.info (by simpa using hQ.one) ?_
   generalize hWq : World.setCells _ _ _ _ = Wa
   obtain rfl : W3 = Wa := by rw [← hWq]; exact hQ.eq
   clear hWq
   refine hK.out _ _ ⟨hF3, hb3⟩ (fun hHeld => ?_)
   clear hK K
   try simp only [Act.put]
   have hB3 := hB2.grown hQ.grown (fun e => by injection e with e; omega)
   obtain ⟨W4, hR⟩ := put_row (ty := 36) hB3 (x := hdC f.b) (by rw [hdC_len ok'.out.b]; rfl) (by rw [hdC_len ok'.out.b]; exact sizeH) (hdC_r ok'.out.b).one
   have hF4 := hHeld.1.grown hR.grown (fun e => by injection e with e; omega)
   have hb4 := below_grown hHeld.2 hR.grown hHeld.2.size (by omega)
   refine tO 7 rfl (fun K hK => ?_)
   refine wp_store_mid 36 _ _ rfl (W1.heap.size + 1) 0 (hdC f.b).toArray (by rfl) (by rfl) hR.there hR.info (by simpa using hR.one) ?_
   generalize hWq : World.setCells _ _ _ _ = Wa
   obtain rfl : W4 = Wa := by rw [← hWq]; exact hR.eq
   clear hWq
   refine hK.out _ _ ⟨hF4, hb4⟩ (fun hHeld => ?_)
   clear hK K
   try simp only [Act.put]
   refine wpAnyH_done (by kernel_rfl) ?_ _
   exact key'.out W1.heap.size (W1.heap.size + 1) W4 ⟨hF4, hQ.blk.grown hR.grown (fun e => by injection e with e; omega), hR.blk, hb4⟩
  case refine_2 =>
   go_simp
   refine hK.out _ _ ⟨(hHeld.1.alloc _), hHeld.2.alloc hHeld.2.size _⟩ (fun hHeld => ?_)
   clear hK K
   try simp only [Act.put, sA, s0, s1]
   refine tO 4 rfl (fun K hK => ?_)
   go_simp
   refine hK.out _ _ ⟨(hHeld.1.alloc _), hHeld.2.alloc hHeld.2.size _⟩ (fun hHeld => ?_)
   clear hK K
   try simp only [Act.put, sA, s0, s1]
   have hB1 := (Blk.new W1.drew 36 zrH).alloc (.cells zrH.toArray 36)
   have hB2 := Blk.new (W1.drew.alloc (.cells zrH.toArray 36)) 36 zrH
   rw [World.size_alloc] at hB2
   have hB1 : Blk ((W1.drew.alloc (.cells zrH.toArray 36)).alloc (.cells zrH.toArray 36)) W1.heap.size 36 zrH := hB1
   have hB2 : Blk ((W1.drew.alloc (.cells zrH.toArray 36)).alloc (.cells zrH.toArray 36)) (W1.heap.size + 1) 36 zrH := hB2
   have hlt := hbf.out.lt
   have hsz := hb1.out.size
   obtain ⟨W3, hQ⟩ := put_row (ty := 36) hB2 (x := hdC f.a) (by rw [hdC_len ok'.out.a]; rfl) (by rw [hdC_len ok'.out.a]; exact sizeH) (hdC_r ok'.out.a).one
   have hF3 := hHeld.1.grown hQ.grown (fun e => by injection e with e; omega)
   have hb3 := below_grown hHeld.2 hQ.grown hHeld.2.size (by omega)
   refine tO 6 rfl (fun K hK => ?_)
   refine wp_store_mid 36 _ _ rfl (W1.heap.size + 1) 0 (hdC f.a).toArray (by rfl) (by rfl) hQ.there hQ.info (by simpa using hQ.one) ?_
   generalize hWq : World.setCells _ _ _ _ = Wa
   obtain rfl : W3 = Wa := by rw [← hWq]; exact hQ.eq
   clear hWq
   refine hK.out _ _ ⟨hF3, hb3⟩ (fun hHeld => ?_)
   clear hK K
   try simp only [Act.put]
   have hB3 := hB1.grown hQ.grown (fun e => by injection e with e; omega)
   obtain ⟨W4, hR⟩ := put_row (ty := 36) hB3 (x := hdC f.b) (by rw [hdC_len ok'.out.b]; rfl) (by rw [hdC_len ok'.out.b]; exact sizeH) (hdC_r ok'.out.b).one
   have hF4 := hHeld.1.grown hR.grown (fun e => by injection e with e; omega)
   have hb4 := below_grown hHeld.2 hR.grown hHeld.2.size (by omega)
   refine tO 7 rfl (fun K hK => ?_)
   refine wp_store_mid 36 _ _ rfl W1.heap.size 0 (hdC f.b).toArray (by rfl) (by rfl) hR.there hR.info (by simpa using hR.one) ?_
   generalize hWq : World.setCells _ _ _ _ = Wa
   obtain rfl : W4 = Wa := by rw [← hWq]; exact hR.eq
   clear hWq
   refine hK.out _ _ ⟨hF4, hb4⟩ (fun hHeld => ?_)
   clear hK K
   try simp only [Act.put]
   refine wpAnyH_done (by kernel_rfl) ?_ _
   exact key'.out (W1.heap.size + 1) W1.heap.size W4 ⟨hF4, hQ.blk.grown hR.grown (fun e => by injection e with e; omega), hR.blk, hb4⟩
 case key =>
  intro qa qb W hB
  clear hbf hb1
  have la := Lib.hid hB.out.bA.range
  have hB' := hB
  go_wp2_with (first
   | (refine wpList_load_g (by rfl) 36 _ (by rfl) qa 0 (by rfl) (hdC f.a) _ la.out Tryz.underlying36 (by rfl) hria.out ?_))
  refine (hva.out _ (HT'.out.below hB.out.bel)).mono ?_
  rintro e w2 ⟨rfl, hb2⟩
  have hB2 := Lib.hid (hB.out.below hb2)
  clear hb2 hB hB' la hva
  cases va with
  | false =>
   have hfin := Lib.hid (hret.out w2 321 (by rw [hP.out]; rfl) hB2.out.bel)
   go_wp2_with fail
   exact hfin.out
  | true =>
   have lb := Lib.hid hB2.out.bB.range
   go_wp2_with (first
    | (refine wpList_load_g (by rfl) 36 _ (by rfl) qb 0 (by rfl) (hdC f.b) _ lb.out Tryz.underlying36 (by rfl) hrib.out ?_))
   refine (hvb.out _ (HT'.out.below hB2.out.bel)).mono ?_
   rintro e w3 ⟨rfl, hb3⟩
   have hB3 := Lib.hid (hB2.out.below hb3)
   clear hb3 hB2 lb hvb
   cases vb with
   | false =>
    have hfin := Lib.hid (hret.out w3 321 (by rw [hP.out]; rfl) hB3.out.bel)
    go_wp2_with fail
    exact hfin.out
   | true =>
    have a0 := hB3.out.bA.at_ x0a; have a1 := hB3.out.bA.at_ x1a; have a2 := hB3.out.bA.at_ x2a
    have b0 := hB3.out.bB.at_ x0b; have b1 := hB3.out.bB.at_ x1b; have b2 := hB3.out.bB.at_ x2b
    have f2 := hB3.out.bF.at_ h74
    have hfin : Hid (∀ n, proveV pub f = n → X (.returned (.int .i64 n)) w3) := fun n hn => hret.out w3 n hn hB3.out.bel
    by_cases e1 : f.a.st = f.b.st
    case neg =>
     have g1 : (f.a.st != f.b.st) = true := by simpa using e1
     have hf := Lib.hid (hfin.out 321 (by rw [hP.out, decide_eq_false e1]; rfl))
     clear e1
     go_wp2_with fail
     exact hf.out
    case pos =>
    have g1 : (f.a.st != f.b.st) = false := by simpa using e1
    by_cases e2 : f.a.fo = f.b.fo
    case neg =>
     have g2 : (f.a.fo != f.b.fo) = true := by simpa using e2
     have hf := Lib.hid (hfin.out 321 (by rw [hP.out, decide_eq_true e1, decide_eq_false e2]; rfl))
     clear e1 e2
     go_wp2_with fail
     exact hf.out
    case pos =>
    have g2 : (f.a.fo != f.b.fo) = false := by simpa using e2
    by_cases e3 : f.a.no ≤ f.b.no
    case neg =>
     have g3 : decide (f.b.no < f.a.no) = true := decide_eq_true (by omega)
     have hf := Lib.hid (hfin.out 321 (by rw [hP.out, decide_eq_true e1, decide_eq_true e2, decide_eq_false e3]; rfl))
     clear e1 e2 e3
     go_wp2_with fail
     exact hf.out
    case pos =>
    have g3 : decide (f.b.no < f.a.no) = false := decide_eq_false (by omega)
    by_cases e4 : f.b.no = (fn : Int)
    case neg =>
     have g4 : (f.b.no != (fn : Int)) = true := by simpa using e4
     have hf := Lib.hid (hfin.out 321 (by rw [hP.out, decide_eq_true e1, decide_eq_true e2, decide_eq_true e3, decide_eq_false e4]; rfl))
     clear e1 e2 e3 e4
     go_wp2_with fail
     exact hf.out
    case pos =>
    have g4 : (f.b.no != (fn : Int)) = false := by simpa using e4
    have hP2 : Hid (proveV pub f = if (tq && !ta) then 0 else 321) := by show _ = _; rw [hP.out, decide_eq_true e1, decide_eq_true e2, decide_eq_true e3, decide_eq_true e4]; rfl
    clear e1 e2 e3 e4 hP
    have lb := Lib.hid hB3.out.bB.range
    go_wp2_with (first
     | (refine wpList_load_g (by rfl) 36 _ (by rfl) qb 0 (by rfl) (hdC f.b) _ lb.out Tryz.underlying36 (by rfl) hrib.out ?_))
    refine (hfb.out _ (HT'.out.below hB3.out.bel) (H'.out.below hB3.out.bel)).mono ?_
    rintro e w4 ⟨rfl, hb4⟩
    have hB4 := Lib.hid (hB3.out.below hb4)
    clear hb4 hB3 lb hfb a0 a1 a2 b0 b1 b2 f2 hfin g1 g2 g3 g4
    cases tq with
    | false =>
     have hf := Lib.hid (hret.out w4 321 (by rw [hP2.out]; rfl) hB4.out.bel)
     go_wp2_with fail
     exact hf.out
    | true =>
     have la := Lib.hid hB4.out.bA.range
     have f2 := hB4.out.bF.at_ h74
     go_wp2_with (first
      | (refine wpList_load_g (by rfl) 36 _ (by rfl) qa 0 (by rfl) (hdC f.a) _ la.out Tryz.underlying36 (by rfl) hria.out ?_))
     refine (hfa.out _ (HT'.out.below hB4.out.bel) (H'.out.below hB4.out.bel)).mono ?_
     rintro e w5 ⟨rfl, hb5⟩
     have hB5 := Lib.hid (hB4.out.below hb5)
     clear hb5 hB4 la hfa f2
     cases ta with
     | false =>
      have hf := Lib.hid (hret.out w5 0 (by rw [hP2.out]; rfl) hB5.out.bel)
      go_wp2_with fail
      exact hf.out
     | true =>
      have hf := Lib.hid (hret.out w5 321 (by rw [hP2.out]; rfl) hB5.out.bel)
      go_wp2_with fail
      exact hf.out
end Go.Proofs.YtnonfdcbnkdmcaaGreatDoor
namespace Go.Proofs.YtnonfdcbnkdmcaaGreatDoor
open Go.RowKit Go.Mem Go.Shelf
open Go.Vw (Hd Fk zeroF validB accuse cmpV cmpOk cmp2)

def CmpPost (x : Fk × Bool) (w : World) (e : Ending) (w' : World) : Prop :=
 ∃ fa fn fc, e = .returned (.tuple #[.agg (forkC x.1 fa fn fc).toArray, .bool x.2]) ∧ OkF x.1 ∧ DS w' fa fn fc x.1.ds ∧ fn ≤ 100000 ∧ Below w.heap.size w w'
structure CmpB (w : World) (tb : Nat) (rA rB rF rX rY : List Value) (qa qb : Nat) (W : World) : Prop where
 b2 : Blk W tb 50 rA
 b3 : Blk W (tb + 1) 50 rB
 bF : Blk W (tb + 1 + 1) 53 rF
 b6 : Blk W qa 93 rX
 b7 : Blk W qb 93 rY
 bel : Below w.heap.size w W
 lo : w.heap.size ≤ tb
 ne : qa ≠ qb ∧ tb + 1 + 1 < qa ∧ tb + 1 + 1 < qb
section
variable {w W W' : World} {tb qa qb : Nat} {rA rB rF rX rY r : List Value}
theorem CmpB.below (h : CmpB w tb rA rB rF rX rY qa qb W) (hb : Below W.heap.size W W') : CmpB w tb rA rB rF rX rY qa qb W' :=
 ⟨h.b2.below hb h.b2.lt, h.b3.below hb h.b3.lt, h.bF.below hb h.bF.lt, h.b6.below hb h.b6.lt, h.b7.below hb h.b7.lt, h.bel.trans (hb.mono h.bel.size), h.lo, h.ne⟩
theorem CmpB.setF (h : CmpB w tb rA rB rF rX rY qa qb W) (hP : PutR 53 W W' (tb + 1 + 1) 53 r) : CmpB w tb rA rB r rX rY qa qb W' := by
 have hn := h.ne
 exact ⟨h.b2.grown hP.grown (fun e => by injection e with e; omega), h.b3.grown hP.grown (fun e => by injection e with e; omega), hP.blk, h.b6.grown hP.grown (fun e => by injection e with e; omega), h.b7.grown hP.grown (fun e => by injection e with e; omega), below_grown h.bel hP.grown h.bel.size (by have := h.lo; omega), h.lo, h.ne⟩
theorem CmpB.setX (h : CmpB w tb rA rB rF rX rY qa qb W) (hP : PutR 93 W W' qa 93 r) : CmpB w tb rA rB rF r rY qa qb W' := by
 have hn := h.ne
 exact ⟨h.b2.grown hP.grown (fun e => by injection e with e; omega), h.b3.grown hP.grown (fun e => by injection e with e; omega), h.bF.grown hP.grown (fun e => by injection e with e; omega), hP.blk, h.b7.grown hP.grown (fun e => by injection e with e; omega), below_grown h.bel hP.grown h.bel.size (by have := h.lo; omega), h.lo, h.ne⟩
theorem CmpB.setY (h : CmpB w tb rA rB rF rX rY qa qb W) (hP : PutR 93 W W' qb 93 r) : CmpB w tb rA rB rF rX r qa qb W' := by
 have hn := h.ne
 exact ⟨h.b2.grown hP.grown (fun e => by injection e with e; omega), h.b3.grown hP.grown (fun e => by injection e with e; omega), h.bF.grown hP.grown (fun e => by injection e with e; omega), h.b6.grown hP.grown (fun e => by injection e with e; omega), hP.blk, below_grown h.bel hP.grown h.bel.size (by have := h.lo; omega), h.lo, h.ne⟩
end

set_option maxRecDepth 100000 in
set_option maxHeartbeats 20000000 in
theorem compare_any (va : Vw.V) (da : Option Addr) (dn dc : Nat) (ha : Option Addr) (hn hc : Nat) (vb : Vw.V) (db : Option Addr) (bn bc : Nat) (hb : Option Addr) (bm bk : Nat) (w : World) (HT : Tabs w) (HA : VM w va da dn dc ha hn hc) (HB : VM w vb db bn bc hb bm bk) :
 Calls Tryz.prog 21 #[.agg #[.int .i64 va.st, .int .i64 va.fo, .int .i64 va.pub, .slice da dn dc, .slice ha hn hc], .agg #[.int .i64 vb.st, .int .i64 vb.fo, .int .i64 vb.pub, .slice db bn bc, .slice hb bm bk]] w (CmpPost (cmpV va vb) w) := by
 have HA' := Lib.hid HA; have HB' := Lib.hid HB; have HT' := Lib.hid HT
 have ln := HA.ds.len
 have lm := HB.ds.len
 have a63 := HA.bd
 have b63 := HB.bd
 clear HA HB HT
 obtain ⟨tb, htb⟩ : ∃ tb, Hid (w.heap.size = tb) := ⟨_, rfl⟩
 obtain ⟨W1, hW1⟩ : ∃ W1, W1 = ((w.alloc (.cells #[.int .i64 va.st, .int .i64 va.fo, .int .i64 va.pub, .slice da dn dc, .slice ha hn hc] 50)).alloc (.cells #[.int .i64 vb.st, .int .i64 vb.fo, .int .i64 vb.pub, .slice db bn bc, .slice hb bm bk] 50)).alloc (.cells zrF.toArray 53) := ⟨_, rfl⟩
 have e1 : (w.alloc (.cells #[.int .i64 va.st, .int .i64 va.fo, .int .i64 va.pub, .slice da dn dc, .slice ha hn hc] 50)).heap.size = tb + 1 := by rw [World.size_alloc, htb.out]
 have e2 : ((w.alloc (.cells #[.int .i64 va.st, .int .i64 va.fo, .int .i64 va.pub, .slice da dn dc, .slice ha hn hc] 50)).alloc (.cells #[.int .i64 vb.st, .int .i64 vb.fo, .int .i64 vb.pub, .slice db bn bc, .slice hb bm bk] 50)).heap.size = tb + 1 + 1 := by rw [World.size_alloc, e1]
 have h2 : Hid (Blk W1 tb 50 [.int .i64 va.st, .int .i64 va.fo, .int .i64 va.pub, .slice da dn dc, .slice ha hn hc]) := by rw [hW1, ← htb.out]; exact ((Blk.new w _ _).alloc _).alloc _
 have h3 : Hid (Blk W1 (tb + 1) 50 [.int .i64 vb.st, .int .i64 vb.fo, .int .i64 vb.pub, .slice db bn bc, .slice hb bm bk]) := by rw [hW1, ← e1]; exact (Blk.new _ _ _).alloc _
 have hF : Hid (Blk W1 (tb + 1 + 1) 53 zrF) := by rw [hW1, ← e2]; exact Blk.new _ _ _
 have hb1 : Hid (Below w.heap.size w W1) := by rw [hW1]; exact (((Below.refl _ w).alloc (Nat.le_refl _) _).alloc (by simp) _).alloc (by simp; omega) _
 clear e1 e2
 have zi := infoF okF0 none 0 0
 rw [show forkC zeroF none 0 0 = zrF from rfl] at zi
 have zone := Lib.hid (forkC_one okF0 none 0 0)
 rw [show forkC zeroF none 0 0 = zrF from rfl] at zone
 obtain ⟨X, hX⟩ : ∃ X, X = CmpPost (cmpV va vb) w := ⟨_, rfl⟩
 rw [← hX]
 have hX' := Lib.hid hX
 clear hX
 have hbad : Hid (cmpOk va vb = false → ∀ W, Below w.heap.size w W → X (.returned (.tuple #[.agg zrF.toArray, .bool false])) W) := fun h W hb => by
  rw [hX'.out]
  unfold cmpV
  rw [h]
  exact ⟨none, 0, 0, rfl, okF0, ds_nil W, by omega, hb⟩
 have hP : Hid (cmpOk va vb = (validB va && validB vb && decide (va.st = vb.st) && decide (va.fo = vb.fo) && decide (va.pub = vb.pub))) := rfl
 have hva := Lib.hid (fun W hT h => viewValid_any va da dn dc ha hn hc W hT h)
 have hvb := Lib.hid (fun W hT h => viewValid_any vb db bn bc hb bm bk W hT h)
 obtain ⟨xa, exa⟩ : ∃ x, Hid (validB va = x) := ⟨_, rfl⟩
 obtain ⟨xb, exb⟩ : ∃ x, Hid (validB vb = x) := ⟨_, rfl⟩
 rw [exa.out] at hva hP
 rw [exb.out] at hvb hP
 clear exa exb
 go_enter Tryz.func21, Tryz.ntmps21
 go_upto_region 1 with fail
 rw [htb.out]
 generalize hWq : ((w.alloc _).alloc _).alloc _ = Wq
 obtain rfl : W1 = Wq := by rw [← hWq, hW1]; rfl
 clear hWq hW1
 refine wp_once (fun qa qb => { tmps := #[.agg #[.int .i64 va.st, .int .i64 va.fo, .int .i64 va.pub, .slice da dn dc, .slice ha hn hc], .agg #[.int .i64 vb.st, .int .i64 vb.fo, .int .i64 vb.pub, .slice db bn bc, .slice hb bm bk], .pointer (some ⟨tb, 0, none⟩), .pointer (some ⟨tb + 1, 0, none⟩), .pointer (some ⟨tb + 1 + 1, 0, none⟩), .bool false, .pointer (some ⟨qa, 0, none⟩), .pointer (some ⟨qb, 0, none⟩), .agg #[.int .i64 va.st, .int .i64 va.fo, .int .i64 va.pub, .slice da dn dc, .slice ha hn hc], .agg #[.int .i64 va.st, .int .i64 va.fo, .int .i64 va.pub, .slice da dn dc, .slice ha hn hc], .agg #[.int .i64 vb.st, .int .i64 vb.fo, .int .i64 vb.pub, .slice db bn bc, .slice hb bm bk], .agg #[.int .i64 vb.st, .int .i64 vb.fo, .int .i64 vb.pub, .slice db bn bc, .slice hb bm bk], undef, undef, undef, undef, undef, undef, undef, undef, undef, undef, undef, undef, undef, undef, undef, undef, undef, undef, undef, undef, undef, undef, undef, undef, undef, undef, undef, undef, undef, undef, undef, undef, undef, undef, undef, undef, undef, undef, undef, undef, undef, undef, undef, undef, undef, undef, undef, undef, undef, undef, undef, undef, undef, undef, undef, undef], defers := [] }) (fun qa qb W => Hid (CmpB w tb [.int .i64 va.st, .int .i64 va.fo, .int .i64 va.pub, .slice da dn dc, .slice ha hn hc] [.int .i64 vb.st, .int .i64 vb.fo, .int .i64 vb.pub, .slice db bn bc, .slice hb bm bk] zrF [.int .i64 va.st, .int .i64 va.fo, .int .i64 va.pub, .slice da dn dc, .slice ha hn hc] [.int .i64 vb.st, .int .i64 vb.fo, .int .i64 vb.pub, .slice db bn bc, .slice hb bm bk] qa qb W)) ?h ?key
 case h =>
  intro key
  have key' := Lib.hid key
  clear key hva hvb hbad hP hX'
  refine wp_region_held_drew (S := fun wz => Blk wz tb 50 [.int .i64 va.st, .int .i64 va.fo, .int .i64 va.pub, .slice da dn dc, .slice ha hn hc] ∧ Blk wz (tb + 1) 50 [.int .i64 vb.st, .int .i64 vb.fo, .int .i64 vb.pub, .slice db bn bc, .slice hb bm bk] ∧ Blk wz (tb + 1 + 1) 53 zrF ∧ Below w.heap.size w wz) (by kernel_rfl) (⟨h2.out, h3.out, hF.out, hb1.out.drew⟩) (fun hHeld => ?_)
  refine tG 0 (v := ?_) rfl (Or.inl ⟨by rfl, ?_⟩) hHeld ?_
  rotate_left
  · intro wz hSw
    have q0 := hSw.1.at_ (i := 0) rfl
    have q1 := hSw.1.at_ (i := 1) rfl
    have q2 := hSw.1.at_ (i := 2) rfl
    have q3 := hSw.1.at_ (i := 3) rfl
    have q4 := hSw.1.at_ (i := 4) rfl
    go_simp
    all_goals (with_reducible rfl)
  try simp only [Act.put, sA, s0, s1]
  refine tQ 1 rfl hHeld ?_
  refine tG 2 (v := ?_) rfl (Or.inl ⟨by rfl, ?_⟩) hHeld ?_
  rotate_left
  · intro wz hSw
    have q0 := hSw.2.1.at_ (i := 0) rfl
    have q1 := hSw.2.1.at_ (i := 1) rfl
    have q2 := hSw.2.1.at_ (i := 2) rfl
    have q3 := hSw.2.1.at_ (i := 3) rfl
    have q4 := hSw.2.1.at_ (i := 4) rfl
    go_simp
    all_goals (with_reducible rfl)
  try simp only [Act.put, sA, s0, s1]
  refine tQ 3 rfl hHeld ?_
  refine rd (rs := [4, 5]) ?_
  refine tR rfl (fun K hK => ?_) (tR rfl (fun K hK => ?_) rn)
  case refine_1 =>
   go_simp
   refine hK.out _ _ ⟨hHeld.1.alloc _, hHeld.2.1.alloc _, hHeld.2.2.1.alloc _, hHeld.2.2.2.alloc hHeld.2.2.2.size _⟩ (fun hHeld => ?_)
   clear hK K
   try simp only [Act.put, sA, s0, s1]
   refine tO 5 rfl (fun K hK => ?_)
   go_simp
   refine hK.out _ _ ⟨hHeld.1.alloc _, hHeld.2.1.alloc _, hHeld.2.2.1.alloc _, hHeld.2.2.2.alloc hHeld.2.2.2.size _⟩ (fun hHeld => ?_)
   clear hK K
   try simp only [Act.put, sA, s0, s1]
   have hB1 : Blk ((W1.drew.alloc (.cells zrV.toArray 93)).alloc (.cells zrV.toArray 93)) W1.heap.size 93 zrV := (Blk.new W1.drew 93 zrV).alloc (.cells zrV.toArray 93)
   have hB2 := Blk.new (W1.drew.alloc (.cells zrV.toArray 93)) 93 zrV
   rw [World.size_alloc] at hB2
   have hB2 : Blk ((W1.drew.alloc (.cells zrV.toArray 93)).alloc (.cells zrV.toArray 93)) (W1.heap.size + 1) 93 zrV := hB2
   have hlt := hF.out.lt
   have hsz := hb1.out.size
   obtain ⟨W3, hQ⟩ := put_row (ty := 93) hB1 (x := [.int .i64 va.st, .int .i64 va.fo, .int .i64 va.pub, .slice da dn dc, .slice ha hn hc]) rfl sizeVv (view_one _ _ _ _ _ _ _ _ _)
   have hS3 := And.intro (hHeld.1.grown hQ.grown (fun e => by injection e with e; omega)) (And.intro (hHeld.2.1.grown hQ.grown (fun e => by injection e with e; omega)) (And.intro (hHeld.2.2.1.grown hQ.grown (fun e => by injection e with e; omega)) (below_grown hHeld.2.2.2 hQ.grown hHeld.2.2.2.size (by omega))))
   refine tO 6 rfl (fun K hK => ?_)
   refine wp_store_mid 93 _ _ rfl W1.heap.size 0 ([.int .i64 va.st, .int .i64 va.fo, .int .i64 va.pub, .slice da dn dc, .slice ha hn hc] : List Value).toArray (by rfl) (by rfl) hQ.there hQ.info (by simpa using hQ.one) ?_
   generalize hWq : World.setCells _ _ _ _ = Wa
   obtain rfl : W3 = Wa := by rw [← hWq]; exact hQ.eq
   clear hWq
   refine hK.out _ _ hS3 (fun hHeld => ?_)
   clear hK K
   try simp only [Act.put]
   have hB3 := hB2.grown hQ.grown (fun e => by injection e with e; omega)
   obtain ⟨W4, hR⟩ := put_row (ty := 93) hB3 (x := [.int .i64 vb.st, .int .i64 vb.fo, .int .i64 vb.pub, .slice db bn bc, .slice hb bm bk]) rfl sizeVv (view_one _ _ _ _ _ _ _ _ _)
   have hS4 := And.intro (hHeld.1.grown hR.grown (fun e => by injection e with e; omega)) (And.intro (hHeld.2.1.grown hR.grown (fun e => by injection e with e; omega)) (And.intro (hHeld.2.2.1.grown hR.grown (fun e => by injection e with e; omega)) (below_grown hHeld.2.2.2 hR.grown hHeld.2.2.2.size (by omega))))
   refine tO 7 rfl (fun K hK => ?_)
   refine wp_store_mid 93 _ _ rfl (W1.heap.size + 1) 0 ([.int .i64 vb.st, .int .i64 vb.fo, .int .i64 vb.pub, .slice db bn bc, .slice hb bm bk] : List Value).toArray (by rfl) (by rfl) hR.there hR.info (by simpa using hR.one) ?_
   generalize hWq : World.setCells _ _ _ _ = Wa
   obtain rfl : W4 = Wa := by rw [← hWq]; exact hR.eq
   clear hWq
   refine hK.out _ _ hS4 (fun hHeld => ?_)
   clear hK K
   try simp only [Act.put]
   refine wpAnyH_done (by kernel_rfl) ?_ _
   exact key'.out W1.heap.size (W1.heap.size + 1) W4 ⟨hS4.1, hS4.2.1, hS4.2.2.1, hQ.blk.grown hR.grown (fun e => by injection e with e; omega), hR.blk, hS4.2.2.2, Nat.le_of_eq htb.out, by omega, by omega, by omega⟩
  case refine_2 =>
   go_simp
   refine hK.out _ _ ⟨hHeld.1.alloc _, hHeld.2.1.alloc _, hHeld.2.2.1.alloc _, hHeld.2.2.2.alloc hHeld.2.2.2.size _⟩ (fun hHeld => ?_)
   clear hK K
   try simp only [Act.put, sA, s0, s1]
   refine tO 4 rfl (fun K hK => ?_)
   go_simp
   refine hK.out _ _ ⟨hHeld.1.alloc _, hHeld.2.1.alloc _, hHeld.2.2.1.alloc _, hHeld.2.2.2.alloc hHeld.2.2.2.size _⟩ (fun hHeld => ?_)
   clear hK K
   try simp only [Act.put, sA, s0, s1]
   have hB1 : Blk ((W1.drew.alloc (.cells zrV.toArray 93)).alloc (.cells zrV.toArray 93)) W1.heap.size 93 zrV := (Blk.new W1.drew 93 zrV).alloc (.cells zrV.toArray 93)
   have hB2 := Blk.new (W1.drew.alloc (.cells zrV.toArray 93)) 93 zrV
   rw [World.size_alloc] at hB2
   have hB2 : Blk ((W1.drew.alloc (.cells zrV.toArray 93)).alloc (.cells zrV.toArray 93)) (W1.heap.size + 1) 93 zrV := hB2
   have hlt := hF.out.lt
   have hsz := hb1.out.size
   obtain ⟨W3, hQ⟩ := put_row (ty := 93) hB2 (x := [.int .i64 va.st, .int .i64 va.fo, .int .i64 va.pub, .slice da dn dc, .slice ha hn hc]) rfl sizeVv (view_one _ _ _ _ _ _ _ _ _)
   have hS3 := And.intro (hHeld.1.grown hQ.grown (fun e => by injection e with e; omega)) (And.intro (hHeld.2.1.grown hQ.grown (fun e => by injection e with e; omega)) (And.intro (hHeld.2.2.1.grown hQ.grown (fun e => by injection e with e; omega)) (below_grown hHeld.2.2.2 hQ.grown hHeld.2.2.2.size (by omega))))
   refine tO 6 rfl (fun K hK => ?_)
   refine wp_store_mid 93 _ _ rfl (W1.heap.size + 1) 0 ([.int .i64 va.st, .int .i64 va.fo, .int .i64 va.pub, .slice da dn dc, .slice ha hn hc] : List Value).toArray (by rfl) (by rfl) hQ.there hQ.info (by simpa using hQ.one) ?_
   generalize hWq : World.setCells _ _ _ _ = Wa
   obtain rfl : W3 = Wa := by rw [← hWq]; exact hQ.eq
   clear hWq
   refine hK.out _ _ hS3 (fun hHeld => ?_)
   clear hK K
   try simp only [Act.put]
   have hB3 := hB1.grown hQ.grown (fun e => by injection e with e; omega)
   obtain ⟨W4, hR⟩ := put_row (ty := 93) hB3 (x := [.int .i64 vb.st, .int .i64 vb.fo, .int .i64 vb.pub, .slice db bn bc, .slice hb bm bk]) rfl sizeVv (view_one _ _ _ _ _ _ _ _ _)
   have hS4 := And.intro (hHeld.1.grown hR.grown (fun e => by injection e with e; omega)) (And.intro (hHeld.2.1.grown hR.grown (fun e => by injection e with e; omega)) (And.intro (hHeld.2.2.1.grown hR.grown (fun e => by injection e with e; omega)) (below_grown hHeld.2.2.2 hR.grown hHeld.2.2.2.size (by omega))))
   refine tO 7 rfl (fun K hK => ?_)
   refine wp_store_mid 93 _ _ rfl W1.heap.size 0 ([.int .i64 vb.st, .int .i64 vb.fo, .int .i64 vb.pub, .slice db bn bc, .slice hb bm bk] : List Value).toArray (by rfl) (by rfl) hR.there hR.info (by simpa using hR.one) ?_
   generalize hWq : World.setCells _ _ _ _ = Wa
   obtain rfl : W4 = Wa := by rw [← hWq]; exact hR.eq
   clear hWq
   refine hK.out _ _ hS4 (fun hHeld => ?_)
   clear hK K
   try simp only [Act.put]
   refine wpAnyH_done (by kernel_rfl) ?_ _
   exact key'.out (W1.heap.size + 1) W1.heap.size W4 ⟨hS4.1, hS4.2.1, hS4.2.2.1, hQ.blk.grown hR.grown (fun e => by injection e with e; omega), hR.blk, hS4.2.2.2, Nat.le_of_eq htb.out, by omega, by omega, by omega⟩
 case key =>
  intro qa qb W hB
  clear h2 h3 hF hb1
  have x0 := hB.out.b6.at_ (i := 0) rfl
  have x1 := hB.out.b6.at_ (i := 1) rfl
  have x2 := hB.out.b6.at_ (i := 2) rfl
  have x3 := hB.out.b6.at_ (i := 3) rfl
  have x4 := hB.out.b6.at_ (i := 4) rfl
  go_wp2_with fail
  refine (hva.out _ (HT'.out.below hB.out.bel) (HA'.out.below hB.out.bel)).mono ?_
  rintro e w2 ⟨rfl, hb2⟩
  have hB2 := Lib.hid (hB.out.below hb2)
  clear hb2 hB x0 x1 x2 x3 x4 hva
  cases xa with
  | false =>
   obtain ⟨W9, hQ⟩ := put_row (ty := 53) hB2.out.bF (x := zrF) rfl sizeF zone.out
   have hB9 := Lib.hid (hB2.out.setF hQ)
   have hfin := Lib.hid (hbad.out (by rw [hP.out]; rfl) W9 hB9.out.bel)
   have hblk := Lib.hid hB9.out.bF
   have hrg := Lib.hid hB2.out.bF.range
   have hQ' := Lib.hid hQ
   clear hQ hB9
   generalize zrF = rf at *
   go_wp2_with (first
    | (refine wpList_load_g (by rfl) 53 _ (by rfl) (tb + 1 + 1) 0 (by rfl) rf _ hrg.out Tryz.underlying53 (by rfl) zi.out ?_)
     | (refine wpList_store_mid (by rfl) 53 _ _ (by rfl) (tb + 1 + 1) 0 rf.toArray (by rfl) (by rfl) hQ'.out.there hQ'.out.info (by simpa using hQ'.out.one) ?_
        generalize hWq : World.setCells _ _ _ _ = Wa
        obtain rfl : W9 = Wa := by rw [← hWq]; exact hQ'.out.eq
        clear hWq))
   exact ret_cell_tmp (fn := Tryz.f21) (p := 4) (u := 5) rfl hblk.out Tryz.underlying53 rfl zi.out rfl rfl rfl hfin.out
  | true =>
   have y0 := hB2.out.b7.at_ (i := 0) rfl
   have y1 := hB2.out.b7.at_ (i := 1) rfl
   have y2 := hB2.out.b7.at_ (i := 2) rfl
   have y3 := hB2.out.b7.at_ (i := 3) rfl
   have y4 := hB2.out.b7.at_ (i := 4) rfl
   go_wp2_with fail
   refine (hvb.out _ (HT'.out.below hB2.out.bel) (HB'.out.below hB2.out.bel)).mono ?_
   rintro e w3 ⟨rfl, hb3⟩
   have hB3 := Lib.hid (hB2.out.below hb3)
   clear hb3 hB2 y0 y1 y2 y3 y4 hvb
   cases xb with
   | false =>
    obtain ⟨W9, hQ⟩ := put_row (ty := 53) hB3.out.bF (x := zrF) rfl sizeF zone.out
    have hB9 := Lib.hid (hB3.out.setF hQ)
    have hfin := Lib.hid (hbad.out (by rw [hP.out]; rfl) W9 hB9.out.bel)
    have hblk := Lib.hid hB9.out.bF
    have hrg := Lib.hid hB3.out.bF.range
    have hQ' := Lib.hid hQ
    clear hQ hB9
    generalize zrF = rf at *
    go_wp2_with (first
     | (refine wpList_load_g (by rfl) 53 _ (by rfl) (tb + 1 + 1) 0 (by rfl) rf _ hrg.out Tryz.underlying53 (by rfl) zi.out ?_)
      | (refine wpList_store_mid (by rfl) 53 _ _ (by rfl) (tb + 1 + 1) 0 rf.toArray (by rfl) (by rfl) hQ'.out.there hQ'.out.info (by simpa using hQ'.out.one) ?_
         generalize hWq : World.setCells _ _ _ _ = Wa
         obtain rfl : W9 = Wa := by rw [← hWq]; exact hQ'.out.eq
         clear hWq))
    exact ret_cell_tmp (fn := Tryz.f21) (p := 4) (u := 5) rfl hblk.out Tryz.underlying53 rfl zi.out rfl rfl rfl hfin.out
   | true =>
    have a0 := hB3.out.b2.at_ (i := 0) rfl
    have a1 := hB3.out.b2.at_ (i := 1) rfl
    have a2 := hB3.out.b2.at_ (i := 2) rfl
    have a3 := hB3.out.b2.at_ (i := 3) rfl
    have a4 := hB3.out.b2.at_ (i := 4) rfl
    have b0 := hB3.out.b3.at_ (i := 0) rfl
    have b1 := hB3.out.b3.at_ (i := 1) rfl
    have b2 := hB3.out.b3.at_ (i := 2) rfl
    have b3 := hB3.out.b3.at_ (i := 3) rfl
    have b4 := hB3.out.b3.at_ (i := 4) rfl
    by_cases e1 : va.st = vb.st
    case neg =>
     have g1 : (va.st != vb.st) = true := by simpa using e1
     have hbd := Lib.hid (show cmpOk va vb = false by rw [hP.out, decide_eq_false e1]; rfl)
     clear e1
     obtain ⟨W9, hQ⟩ := put_row (ty := 53) hB3.out.bF (x := zrF) rfl sizeF zone.out
     have hB9 := Lib.hid (hB3.out.setF hQ)
     have hfin := Lib.hid (hbad.out hbd.out W9 hB9.out.bel)
     have hblk := Lib.hid hB9.out.bF
     have hrg := Lib.hid hB3.out.bF.range
     have hQ' := Lib.hid hQ
     clear hQ hB9
     generalize zrF = rf at *
     go_wp2_with (first
      | (refine wpList_load_g (by rfl) 53 _ (by rfl) (tb + 1 + 1) 0 (by rfl) rf _ hrg.out Tryz.underlying53 (by rfl) zi.out ?_)
       | (refine wpList_store_mid (by rfl) 53 _ _ (by rfl) (tb + 1 + 1) 0 rf.toArray (by rfl) (by rfl) hQ'.out.there hQ'.out.info (by simpa using hQ'.out.one) ?_
          generalize hWq : World.setCells _ _ _ _ = Wa
          obtain rfl : W9 = Wa := by rw [← hWq]; exact hQ'.out.eq
          clear hWq))
     exact ret_cell_tmp (fn := Tryz.f21) (p := 4) (u := 5) rfl hblk.out Tryz.underlying53 rfl zi.out rfl rfl rfl hfin.out
    case pos =>
    have g1 : (va.st != vb.st) = false := by simpa using e1
    by_cases e2 : va.fo = vb.fo
    case neg =>
     have g2 : (va.fo != vb.fo) = true := by simpa using e2
     have hbd := Lib.hid (show cmpOk va vb = false by rw [hP.out, decide_eq_false e2, decide_eq_true e1]; rfl)
     clear e1 e2
     obtain ⟨W9, hQ⟩ := put_row (ty := 53) hB3.out.bF (x := zrF) rfl sizeF zone.out
     have hB9 := Lib.hid (hB3.out.setF hQ)
     have hfin := Lib.hid (hbad.out hbd.out W9 hB9.out.bel)
     have hblk := Lib.hid hB9.out.bF
     have hrg := Lib.hid hB3.out.bF.range
     have hQ' := Lib.hid hQ
     clear hQ hB9
     generalize zrF = rf at *
     go_wp2_with (first
      | (refine wpList_load_g (by rfl) 53 _ (by rfl) (tb + 1 + 1) 0 (by rfl) rf _ hrg.out Tryz.underlying53 (by rfl) zi.out ?_)
       | (refine wpList_store_mid (by rfl) 53 _ _ (by rfl) (tb + 1 + 1) 0 rf.toArray (by rfl) (by rfl) hQ'.out.there hQ'.out.info (by simpa using hQ'.out.one) ?_
          generalize hWq : World.setCells _ _ _ _ = Wa
          obtain rfl : W9 = Wa := by rw [← hWq]; exact hQ'.out.eq
          clear hWq))
     exact ret_cell_tmp (fn := Tryz.f21) (p := 4) (u := 5) rfl hblk.out Tryz.underlying53 rfl zi.out rfl rfl rfl hfin.out
    case pos =>
    have g2 : (va.fo != vb.fo) = false := by simpa using e2
    by_cases e3 : va.pub = vb.pub
    case neg =>
     have g3 : (va.pub != vb.pub) = true := by simpa using e3
     have hbd := Lib.hid (show cmpOk va vb = false by rw [hP.out, decide_eq_false e3, decide_eq_true e1, decide_eq_true e2]; rfl)
     clear e1 e2 e3
     obtain ⟨W9, hQ⟩ := put_row (ty := 53) hB3.out.bF (x := zrF) rfl sizeF zone.out
     have hB9 := Lib.hid (hB3.out.setF hQ)
     have hfin := Lib.hid (hbad.out hbd.out W9 hB9.out.bel)
     have hblk := Lib.hid hB9.out.bF
     have hrg := Lib.hid hB3.out.bF.range
     have hQ' := Lib.hid hQ
     clear hQ hB9
     generalize zrF = rf at *
     go_wp2_with (first
      | (refine wpList_load_g (by rfl) 53 _ (by rfl) (tb + 1 + 1) 0 (by rfl) rf _ hrg.out Tryz.underlying53 (by rfl) zi.out ?_)
       | (refine wpList_store_mid (by rfl) 53 _ _ (by rfl) (tb + 1 + 1) 0 rf.toArray (by rfl) (by rfl) hQ'.out.there hQ'.out.info (by simpa using hQ'.out.one) ?_
          generalize hWq : World.setCells _ _ _ _ = Wa
          obtain rfl : W9 = Wa := by rw [← hWq]; exact hQ'.out.eq
          clear hWq))
     exact ret_cell_tmp (fn := Tryz.f21) (p := 4) (u := 5) rfl hblk.out Tryz.underlying53 rfl zi.out rfl rfl rfl hfin.out
    case pos =>
    have g3 : (va.pub != vb.pub) = false := by simpa using e3
    have hspec : Hid (cmpV va vb = if va.ds.length < vb.ds.length then cmp2 vb va else cmp2 va vb) := by
     show _ = _
     unfold cmpV
     rw [hP.out, decide_eq_true e1, decide_eq_true e2, decide_eq_true e3]
     rfl
    clear e1 e2 e3 hP hbad
    by_cases hlt : dn < bn
    case pos =>
     have g4 : decide (dn < bn) = true := decide_eq_true hlt
     have g5 : decide ((dn : Int) < (bn : Int)) = true := decide_eq_true (by omega)
     have hspec2 : Hid (cmpV va vb = if (accuse vb va.hs).2 then accuse vb va.hs else accuse va vb.hs) := by show _ = _; rw [hspec.out, if_pos (by rw [ln, lm]; exact hlt)]; rfl
     clear hspec hlt ln lm
     obtain ⟨W6, hQ⟩ := put_row (ty := 93) hB3.out.b6 (x := [.int .i64 vb.st, .int .i64 vb.fo, .int .i64 vb.pub, .slice db bn bc, .slice hb bm bk]) rfl sizeVv (view_one _ _ _ _ _ _ _ _ _)
     have hB6 := Lib.hid (hB3.out.setX hQ)
     obtain ⟨W7, hS⟩ := put_row (ty := 93) hB6.out.b7 (x := [.int .i64 va.st, .int .i64 va.fo, .int .i64 va.pub, .slice da dn dc, .slice ha hn hc]) rfl sizeVv (view_one _ _ _ _ _ _ _ _ _)
     have hB7 := Lib.hid (hB6.out.setY hS)
     have x0 := hB3.out.b6.at_ (i := 0) rfl
     have x1 := hB3.out.b6.at_ (i := 1) rfl
     have x2 := hB3.out.b6.at_ (i := 2) rfl
     have x3 := hB3.out.b6.at_ (i := 3) rfl
     have x4 := hB3.out.b6.at_ (i := 4) rfl
     have y0 := hB3.out.b7.at_ (i := 0) rfl
     have y1 := hB3.out.b7.at_ (i := 1) rfl
     have y2 := hB3.out.b7.at_ (i := 2) rfl
     have y3 := hB3.out.b7.at_ (i := 3) rfl
     have y4 := hB3.out.b7.at_ (i := 4) rfl
     have hQ' := Lib.hid hQ
     have hS' := Lib.hid hS
     clear hQ hS hB6
     go_upto_region 6 with (first
      | (refine wpList_store_mid (by rfl) 93 _ _ (by rfl) qa 0 ([.int .i64 vb.st, .int .i64 vb.fo, .int .i64 vb.pub, .slice db bn bc, .slice hb bm bk] : List Value).toArray (by rfl) (by rfl) hQ'.out.there hQ'.out.info (by simpa using hQ'.out.one) ?_
         generalize hWq : World.setCells _ _ _ _ = Wa
         obtain rfl : W6 = Wa := by rw [← hWq]; exact hQ'.out.eq
         clear hWq)
          | (refine wpList_store_mid (by rfl) 93 _ _ (by rfl) qb 0 ([.int .i64 va.st, .int .i64 va.fo, .int .i64 va.pub, .slice da dn dc, .slice ha hn hc] : List Value).toArray (by rfl) (by rfl) hS'.out.there hS'.out.info (by simpa using hS'.out.one) ?_
             generalize hWq : World.setCells _ _ _ _ = Wa
             obtain rfl : W7 = Wa := by rw [← hWq]; exact hS'.out.eq
             clear hWq))
     try simp only [Act.put]
     clear hQ' hS' hB3 x0 x1 x2 x3 x4 y0 y1 y2 y3 y4 a0 a1 a2 a3 a4 b0 b1 b2 b3 b4 g1 g2 g3 g4 g5
     have hsp : Hid (cmpV va vb = if (accuse vb va.hs).2 then accuse vb va.hs else accuse va vb.hs) := hspec2.out
     have hac := Lib.hid (fun W hT h1 h2 => accuse_any vb db bn bc hb bm bk ha hn hc va.hs W hT h1 h2)
     have hac2 := Lib.hid (fun W hT h1 h2 => accuse_any va da dn dc ha hn hc hb bm bk vb.hs W hT h1 h2)
     obtain ⟨AC, eAC⟩ : ∃ x, Hid (accuse vb va.hs = x) := ⟨_, rfl⟩
     obtain ⟨AD, eAD⟩ : ∃ x, Hid (accuse va vb.hs = x) := ⟨_, rfl⟩
     rw [eAC.out] at hac hsp
     rw [eAD.out] at hac2 hsp
     clear eAC eAD hspec2
     have x0 := hB7.out.b6.at_ (i := 0) rfl
     have x1 := hB7.out.b6.at_ (i := 1) rfl
     have x2 := hB7.out.b6.at_ (i := 2) rfl
     have x3 := hB7.out.b6.at_ (i := 3) rfl
     have x4 := hB7.out.b6.at_ (i := 4) rfl
     have y4 := hB7.out.b7.at_ (i := 4) rfl
     go_wp2_with fail
     refine (hac.out _ (HT'.out.below hB7.out.bel) (HB'.out.below hB7.out.bel) (HA'.out.hs.below hB7.out.bel)).mono ?_
     rintro e w5 ⟨hcase, okf, hb5⟩
     have hB5 := Lib.hid (hB7.out.below hb5)
     obtain ⟨f, b⟩ := AC
     simp only [] at hsp okf hcase
     have hcase' := Lib.hid hcase
     have okf' := Lib.hid okf
     clear hcase okf hb5 hB7 x0 x1 x2 x3 x4 y4 hac
     rcases hcase'.out with ⟨rfl, hfd, rfl⟩ | ⟨he, rfl⟩
     · have hsp2 : Hid (cmpV va vb = (f, true)) := by show _ = _; rw [hsp.out, if_pos rfl]
       have fi := infoF okf'.out db bn bc
       obtain ⟨W9, hQ⟩ := put_row (ty := 53) hB5.out.bF (x := forkC f db bn bc) (by rw [forkC_len okf'.out]; rfl) (by rw [forkC_len okf'.out]; exact sizeF) (forkC_one okf'.out _ _ _)
       have hB9 := Lib.hid (hB5.out.setF hQ)
       obtain ⟨W10, hS⟩ := put_row (ty := 53) hB9.out.bF (x := forkC f db bn bc) rfl (by rw [forkC_len okf'.out]; exact sizeF) (forkC_one okf'.out _ _ _)
       have hB10 := Lib.hid (hB9.out.setF hS)
       have hfin : Hid (X (.returned (.tuple #[.agg (forkC f db bn bc).toArray, .bool true])) W10) := by
        rw [hX'.out, hsp2.out]
        exact ⟨db, bn, bc, rfl, okf'.out, by rw [hfd]; exact HB'.out.ds.below hB10.out.bel, HB'.out.bd, hB10.out.bel⟩
       have hblk := Lib.hid hB10.out.bF
       have hrg := Lib.hid hB9.out.bF.range
       have hQ' := Lib.hid hQ
       have hS' := Lib.hid hS
       clear hQ hS hB5 hB9 hB10 hsp hsp2 hcase' hfd hac2
       generalize forkC f db bn bc = rf at *
       go_upto_region 7 with (first
        | (refine wpList_store_mid (by rfl) 53 _ _ (by rfl) (tb + 1 + 1) 0 (rf).toArray (by rfl) (by rfl) hQ'.out.there hQ'.out.info (by simpa using hQ'.out.one) ?_
           generalize hWq : World.setCells _ _ _ _ = Wa
           obtain rfl : W9 = Wa := by rw [← hWq]; exact hQ'.out.eq
           clear hWq))
       try simp only [Act.put]
       go_wp2_with (first
        | (refine wpList_load_g (by rfl) 53 _ (by rfl) (tb + 1 + 1) 0 (by rfl) rf _ hrg.out Tryz.underlying53 (by rfl) fi.out ?_)
         | (refine wpList_store_mid (by rfl) 53 _ _ (by rfl) (tb + 1 + 1) 0 rf.toArray (by rfl) (by rfl) hS'.out.there hS'.out.info (by simpa using hS'.out.one) ?_
            generalize hWq : World.setCells _ _ _ _ = Wa
            obtain rfl : W10 = Wa := by rw [← hWq]; exact hS'.out.eq
            clear hWq))
       exact ret_cell_tmp (fn := Tryz.f21) (p := 4) (u := 5) rfl hblk.out Tryz.underlying53 rfl fi.out rfl rfl rfl hfin.out
     · injection he with he1 he2
       subst he1 he2
       have hsp2 : Hid (cmpV va vb = AD) := by show _ = _; rw [hsp.out]; rfl
       obtain ⟨W9, hQ⟩ := put_row (ty := 53) hB5.out.bF (x := zrF) rfl sizeF zone.out
       have hB9 := Lib.hid (hB5.out.setF hQ)
       have hQ' := Lib.hid hQ
       clear hQ hB5 hsp hcase'
       go_upto_region 7 with (first
        | (refine wpList_store_mid (by rfl) 53 _ _ (by rfl) (tb + 1 + 1) 0 (zrF).toArray (by rfl) (by rfl) hQ'.out.there hQ'.out.info (by simpa using hQ'.out.one) ?_
           generalize hWq : World.setCells _ _ _ _ = Wa
           obtain rfl : W9 = Wa := by rw [← hWq]; exact hQ'.out.eq
           clear hWq))
       try simp only [Act.put]
       clear hQ'
       have y0 := hB9.out.b7.at_ (i := 0) rfl
       have y1 := hB9.out.b7.at_ (i := 1) rfl
       have y2 := hB9.out.b7.at_ (i := 2) rfl
       have y3 := hB9.out.b7.at_ (i := 3) rfl
       have y4 := hB9.out.b7.at_ (i := 4) rfl
       have x4 := hB9.out.b6.at_ (i := 4) rfl
       go_wp2_with fail
       refine (hac2.out _ (HT'.out.below hB9.out.bel) (HA'.out.below hB9.out.bel) (HB'.out.hs.below hB9.out.bel)).mono ?_
       rintro e w6 ⟨hcase, okg, hb6⟩
       have hB6 := Lib.hid (hB9.out.below hb6)
       obtain ⟨g, b⟩ := AD
       simp only [] at okg hcase
       have hcase' := Lib.hid hcase
       have okg' := Lib.hid okg
       clear hcase okg hb6 hB9 x4 y0 y1 y2 y3 y4 hac2
       rcases hcase'.out with ⟨rfl, hgd, rfl⟩ | ⟨he, rfl⟩
       · have fi := infoF okg'.out da dn dc
         obtain ⟨W9, hQ⟩ := put_row (ty := 53) hB6.out.bF (x := forkC g da dn dc) (by rw [forkC_len okg'.out]; rfl) (by rw [forkC_len okg'.out]; exact sizeF) (forkC_one okg'.out _ _ _)
         have hB9 := Lib.hid (hB6.out.setF hQ)
         have hfin : Hid (X (.returned (.tuple #[.agg (forkC g da dn dc).toArray, .bool true])) W9) := by
          rw [hX'.out, hsp2.out]
          exact ⟨da, dn, dc, rfl, okg'.out, by rw [hgd]; exact HA'.out.ds.below hB9.out.bel, HA'.out.bd, hB9.out.bel⟩
         have hblk := Lib.hid hB9.out.bF
         have hQ' := Lib.hid hQ
         clear hQ hB6 hB9 hsp2 hcase' hgd
         generalize forkC g da dn dc = rf at *
         go_wp2_with (first
          | (refine wpList_store_mid (by rfl) 53 _ _ (by rfl) (tb + 1 + 1) 0 (rf).toArray (by rfl) (by rfl) hQ'.out.there hQ'.out.info (by simpa using hQ'.out.one) ?_
             generalize hWq : World.setCells _ _ _ _ = Wa
             obtain rfl : W9 = Wa := by rw [← hWq]; exact hQ'.out.eq
             clear hWq))
         exact ret_cell_tmp (fn := Tryz.f21) (p := 4) (u := 5) rfl hblk.out Tryz.underlying53 rfl fi.out rfl rfl rfl hfin.out
       · injection he with he1 he2
         subst he1 he2
         obtain ⟨W9, hQ⟩ := put_row (ty := 53) hB6.out.bF (x := zrF) rfl sizeF zone.out
         have hB9 := Lib.hid (hB6.out.setF hQ)
         have hfin : Hid (X (.returned (.tuple #[.agg zrF.toArray, .bool false])) W9) := by
          rw [hX'.out, hsp2.out]
          exact ⟨none, 0, 0, rfl, okF0, ds_nil W9, by omega, hB9.out.bel⟩
         have hblk := Lib.hid hB9.out.bF
         have hQ' := Lib.hid hQ
         clear hQ hB6 hB9 hsp2 hcase'
         generalize zrF = rf at *
         go_wp2_with (first
          | (refine wpList_store_mid (by rfl) 53 _ _ (by rfl) (tb + 1 + 1) 0 (rf).toArray (by rfl) (by rfl) hQ'.out.there hQ'.out.info (by simpa using hQ'.out.one) ?_
             generalize hWq : World.setCells _ _ _ _ = Wa
             obtain rfl : W9 = Wa := by rw [← hWq]; exact hQ'.out.eq
             clear hWq))
         exact ret_cell_tmp (fn := Tryz.f21) (p := 4) (u := 5) rfl hblk.out Tryz.underlying53 rfl zi.out rfl rfl rfl hfin.out
    case neg =>
     have g4 : decide (dn < bn) = false := decide_eq_false hlt
     have g5 : decide ((dn : Int) < (bn : Int)) = false := decide_eq_false (by omega)
     have hspec2 : Hid (cmpV va vb = if (accuse va vb.hs).2 then accuse va vb.hs else accuse vb va.hs) := by show _ = _; rw [hspec.out, if_neg (by rw [ln, lm]; exact hlt)]; rfl
     clear hspec hlt ln lm
     go_upto_region 6 with fail
     clear a0 a1 a2 a3 a4 b0 b1 b2 b3 b4 g1 g2 g3 g4 g5
     have hsp : Hid (cmpV va vb = if (accuse va vb.hs).2 then accuse va vb.hs else accuse vb va.hs) := hspec2.out
     have hac := Lib.hid (fun W hT h1 h2 => accuse_any va da dn dc ha hn hc hb bm bk vb.hs W hT h1 h2)
     have hac2 := Lib.hid (fun W hT h1 h2 => accuse_any vb db bn bc hb bm bk ha hn hc va.hs W hT h1 h2)
     obtain ⟨AC, eAC⟩ : ∃ x, Hid (accuse va vb.hs = x) := ⟨_, rfl⟩
     obtain ⟨AD, eAD⟩ : ∃ x, Hid (accuse vb va.hs = x) := ⟨_, rfl⟩
     rw [eAC.out] at hac hsp
     rw [eAD.out] at hac2 hsp
     clear eAC eAD hspec2
     have x0 := hB3.out.b6.at_ (i := 0) rfl
     have x1 := hB3.out.b6.at_ (i := 1) rfl
     have x2 := hB3.out.b6.at_ (i := 2) rfl
     have x3 := hB3.out.b6.at_ (i := 3) rfl
     have x4 := hB3.out.b6.at_ (i := 4) rfl
     have y4 := hB3.out.b7.at_ (i := 4) rfl
     go_wp2_with fail
     refine (hac.out _ (HT'.out.below hB3.out.bel) (HA'.out.below hB3.out.bel) (HB'.out.hs.below hB3.out.bel)).mono ?_
     rintro e w5 ⟨hcase, okf, hb5⟩
     have hB5 := Lib.hid (hB3.out.below hb5)
     obtain ⟨f, b⟩ := AC
     simp only [] at hsp okf hcase
     have hcase' := Lib.hid hcase
     have okf' := Lib.hid okf
     clear hcase okf hb5 hB3 x0 x1 x2 x3 x4 y4 hac
     rcases hcase'.out with ⟨rfl, hfd, rfl⟩ | ⟨he, rfl⟩
     · have hsp2 : Hid (cmpV va vb = (f, true)) := by show _ = _; rw [hsp.out, if_pos rfl]
       have fi := infoF okf'.out da dn dc
       obtain ⟨W9, hQ⟩ := put_row (ty := 53) hB5.out.bF (x := forkC f da dn dc) (by rw [forkC_len okf'.out]; rfl) (by rw [forkC_len okf'.out]; exact sizeF) (forkC_one okf'.out _ _ _)
       have hB9 := Lib.hid (hB5.out.setF hQ)
       obtain ⟨W10, hS⟩ := put_row (ty := 53) hB9.out.bF (x := forkC f da dn dc) rfl (by rw [forkC_len okf'.out]; exact sizeF) (forkC_one okf'.out _ _ _)
       have hB10 := Lib.hid (hB9.out.setF hS)
       have hfin : Hid (X (.returned (.tuple #[.agg (forkC f da dn dc).toArray, .bool true])) W10) := by
        rw [hX'.out, hsp2.out]
        exact ⟨da, dn, dc, rfl, okf'.out, by rw [hfd]; exact HA'.out.ds.below hB10.out.bel, HA'.out.bd, hB10.out.bel⟩
       have hblk := Lib.hid hB10.out.bF
       have hrg := Lib.hid hB9.out.bF.range
       have hQ' := Lib.hid hQ
       have hS' := Lib.hid hS
       clear hQ hS hB5 hB9 hB10 hsp hsp2 hcase' hfd hac2
       generalize forkC f da dn dc = rf at *
       go_upto_region 7 with (first
        | (refine wpList_store_mid (by rfl) 53 _ _ (by rfl) (tb + 1 + 1) 0 (rf).toArray (by rfl) (by rfl) hQ'.out.there hQ'.out.info (by simpa using hQ'.out.one) ?_
           generalize hWq : World.setCells _ _ _ _ = Wa
           obtain rfl : W9 = Wa := by rw [← hWq]; exact hQ'.out.eq
           clear hWq))
       try simp only [Act.put]
       go_wp2_with (first
        | (refine wpList_load_g (by rfl) 53 _ (by rfl) (tb + 1 + 1) 0 (by rfl) rf _ hrg.out Tryz.underlying53 (by rfl) fi.out ?_)
         | (refine wpList_store_mid (by rfl) 53 _ _ (by rfl) (tb + 1 + 1) 0 rf.toArray (by rfl) (by rfl) hS'.out.there hS'.out.info (by simpa using hS'.out.one) ?_
            generalize hWq : World.setCells _ _ _ _ = Wa
            obtain rfl : W10 = Wa := by rw [← hWq]; exact hS'.out.eq
            clear hWq))
       exact ret_cell_tmp (fn := Tryz.f21) (p := 4) (u := 5) rfl hblk.out Tryz.underlying53 rfl fi.out rfl rfl rfl hfin.out
     · injection he with he1 he2
       subst he1 he2
       have hsp2 : Hid (cmpV va vb = AD) := by show _ = _; rw [hsp.out]; rfl
       obtain ⟨W9, hQ⟩ := put_row (ty := 53) hB5.out.bF (x := zrF) rfl sizeF zone.out
       have hB9 := Lib.hid (hB5.out.setF hQ)
       have hQ' := Lib.hid hQ
       clear hQ hB5 hsp hcase'
       go_upto_region 7 with (first
        | (refine wpList_store_mid (by rfl) 53 _ _ (by rfl) (tb + 1 + 1) 0 (zrF).toArray (by rfl) (by rfl) hQ'.out.there hQ'.out.info (by simpa using hQ'.out.one) ?_
           generalize hWq : World.setCells _ _ _ _ = Wa
           obtain rfl : W9 = Wa := by rw [← hWq]; exact hQ'.out.eq
           clear hWq))
       try simp only [Act.put]
       clear hQ'
       have y0 := hB9.out.b7.at_ (i := 0) rfl
       have y1 := hB9.out.b7.at_ (i := 1) rfl
       have y2 := hB9.out.b7.at_ (i := 2) rfl
       have y3 := hB9.out.b7.at_ (i := 3) rfl
       have y4 := hB9.out.b7.at_ (i := 4) rfl
       have x4 := hB9.out.b6.at_ (i := 4) rfl
       go_wp2_with fail
       refine (hac2.out _ (HT'.out.below hB9.out.bel) (HB'.out.below hB9.out.bel) (HA'.out.hs.below hB9.out.bel)).mono ?_
       rintro e w6 ⟨hcase, okg, hb6⟩
       have hB6 := Lib.hid (hB9.out.below hb6)
       obtain ⟨g, b⟩ := AD
       simp only [] at okg hcase
       have hcase' := Lib.hid hcase
       have okg' := Lib.hid okg
       clear hcase okg hb6 hB9 x4 y0 y1 y2 y3 y4 hac2
       rcases hcase'.out with ⟨rfl, hgd, rfl⟩ | ⟨he, rfl⟩
       · have fi := infoF okg'.out db bn bc
         obtain ⟨W9, hQ⟩ := put_row (ty := 53) hB6.out.bF (x := forkC g db bn bc) (by rw [forkC_len okg'.out]; rfl) (by rw [forkC_len okg'.out]; exact sizeF) (forkC_one okg'.out _ _ _)
         have hB9 := Lib.hid (hB6.out.setF hQ)
         have hfin : Hid (X (.returned (.tuple #[.agg (forkC g db bn bc).toArray, .bool true])) W9) := by
          rw [hX'.out, hsp2.out]
          exact ⟨db, bn, bc, rfl, okg'.out, by rw [hgd]; exact HB'.out.ds.below hB9.out.bel, HB'.out.bd, hB9.out.bel⟩
         have hblk := Lib.hid hB9.out.bF
         have hQ' := Lib.hid hQ
         clear hQ hB6 hB9 hsp2 hcase' hgd
         generalize forkC g db bn bc = rf at *
         go_wp2_with (first
          | (refine wpList_store_mid (by rfl) 53 _ _ (by rfl) (tb + 1 + 1) 0 (rf).toArray (by rfl) (by rfl) hQ'.out.there hQ'.out.info (by simpa using hQ'.out.one) ?_
             generalize hWq : World.setCells _ _ _ _ = Wa
             obtain rfl : W9 = Wa := by rw [← hWq]; exact hQ'.out.eq
             clear hWq))
         exact ret_cell_tmp (fn := Tryz.f21) (p := 4) (u := 5) rfl hblk.out Tryz.underlying53 rfl fi.out rfl rfl rfl hfin.out
       · injection he with he1 he2
         subst he1 he2
         obtain ⟨W9, hQ⟩ := put_row (ty := 53) hB6.out.bF (x := zrF) rfl sizeF zone.out
         have hB9 := Lib.hid (hB6.out.setF hQ)
         have hfin : Hid (X (.returned (.tuple #[.agg zrF.toArray, .bool false])) W9) := by
          rw [hX'.out, hsp2.out]
          exact ⟨none, 0, 0, rfl, okF0, ds_nil W9, by omega, hB9.out.bel⟩
         have hblk := Lib.hid hB9.out.bF
         have hQ' := Lib.hid hQ
         clear hQ hB6 hB9 hsp2 hcase'
         generalize zrF = rf at *
         go_wp2_with (first
          | (refine wpList_store_mid (by rfl) 53 _ _ (by rfl) (tb + 1 + 1) 0 (rf).toArray (by rfl) (by rfl) hQ'.out.there hQ'.out.info (by simpa using hQ'.out.one) ?_
             generalize hWq : World.setCells _ _ _ _ = Wa
             obtain rfl : W9 = Wa := by rw [← hWq]; exact hQ'.out.eq
             clear hWq))
         exact ret_cell_tmp (fn := Tryz.f21) (p := 4) (u := 5) rfl hblk.out Tryz.underlying53 rfl zi.out rfl rfl rfl hfin.out
end Go.Proofs.YtnonfdcbnkdmcaaGreatDoor
