/- codec: newWriter, the list writer, Encode -/
import Derived.Test.YtgfmdjagamjpbaaDoorCoe
import Derived.Laws.EntriesVeiled
namespace Go.Proofs.YtgfmdjagamjpbaaDoor
open Go.RowKit Go.Mem

/-- the writer's functions: nil, two plain ones, and one that holds the variable's address. -/
def wrC (pb : Nat) : List Value := [.nilFunc, (.func (.func 64) #[] #[]), (.func (.func 67) #[] #[]), .func (.func 68) #[] #[.pointer (some ⟨pb, 0, none⟩)]]
structure Wrt (w : World) (wb pb : Nat) : Prop where
  wr : Blk w wb 121 (wrC pb)
  var : Blk w pb 98 [.pointer (some ⟨wb, 0, none⟩)]
theorem Wrt.below {B : Nat} {w w' : World} {wb pb : Nat} (h : Wrt w wb pb) (hb : Below B w w') (h1 : wb < B) (h2 : pb < B) : Wrt w' wb pb := ⟨h.wr.below hb h1, h.var.below hb h2⟩

set_option maxRecDepth 20000 in
set_option maxHeartbeats 1000000 in
theorem newWriter_any (w : World) : Calls Tryd.prog 45 #[] w fun e w' => ∃ wb pb, e = .returned (.pointer (some ⟨wb, 0, none⟩)) ∧ Wrt w' wb pb ∧ wb < w'.heap.size ∧ pb < w'.heap.size ∧ Below w.heap.size w w' := by
  have hR : Hid (Wrt ((w.alloc (.cells (wrC (w.heap.size + 1)).toArray 121)).alloc (.cells #[.pointer (some ⟨w.heap.size, 0, none⟩)] 98)) w.heap.size (w.heap.size + 1)) := by
    have h := Blk.new (w.alloc (.cells (wrC (w.heap.size + 1)).toArray 121)) 98 [.pointer (some ⟨w.heap.size, 0, none⟩)]
    rw [show (w.alloc (.cells (wrC (w.heap.size + 1)).toArray 121)).heap.size = w.heap.size + 1 by simp] at h
    exact ⟨(Blk.new w 121 (wrC (w.heap.size + 1))).alloc _, h⟩
  have hb := Lib.hid (((Below.refl w.heap.size w).alloc (Nat.le_refl _) (.cells (wrC (w.heap.size + 1)).toArray 121)).alloc (by simp) (.cells #[.pointer (some ⟨w.heap.size, 0, none⟩)] 98))
  go_enter Tryd.func45, Tryd.ntmps45
  go_wp2_with fail
  go_ret
  exact ⟨_, _, rfl, hR.out, hR.out.wr.lt, hR.out.var.lt, hb.out⟩

theorem ownsRow_base {w : World} {B B' : Nat} {e : TypeId} {s : Nat} {v : Value} {n : Nat} {xs : List Value} (h : w.ownsRow B e s v n xs) (hB : B' ≤ B) : w.ownsRow B' e s v n xs := ⟨h.1, by
  rcases h.2 with h2 | ⟨g, cap, cur, h2, hbg, h3⟩
  · exact .inl h2
  · exact .inr ⟨g, cap, cur, h2, Nat.le_trans hB hbg, h3⟩⟩
theorem encF_len (x : FV) (hx : match x with | .int m => I64 m | .text s => s.size ≤ 1000) : (encF x).length ≤ 2000 := by
  cases x with
  | int m =>
    have := Cod.numl_len64 (zigN_eq m).2
    simp only [encF, List.length_cons]; omega
  | text s =>
    have hx' : s.size ≤ 1000 := hx
    have := Cod.numl_len64 (u := s.size) (by omega)
    simp only [encF, List.length_cons, List.length_append, octets_length]; omega
def FVok (x : FV) : Prop := match x with | .int m => I64 m | .text s => s.size ≤ 1000
theorem encs_len : ∀ (l : List FV), (∀ x ∈ l, FVok x) → ((l.map encF).flatten).length ≤ 2000 * l.length
  | [], _ => by simp
  | x :: l, h => by
    have h1 := encF_len x (h x (by simp))
    have h2 := encs_len l (fun y hy => h y (by simp [hy]))
    simp only [List.map_cons, List.flatten_cons, List.length_append, List.length_cons]; omega

set_option maxRecDepth 20000 in
set_option maxHeartbeats 2000000 in
theorem writeL_any (b n c : Nat) (l : List FV) (hok : ∀ x ∈ l, FVok x) (wb pb : Nat) (w : World) (H : FS w b n c l) (hW : Wrt w wb pb) :
    Calls Tryd.prog 68 #[.slice none 0 0, .agg #[.int .i64 3, .int .i64 0, .string ⟨#[]⟩, .slice (some ⟨b, 0, none⟩) n c], .pointer (some ⟨pb, 0, none⟩)] w (OwnsB w.heap.size (encL l).length (encL l) w) := by
  obtain ⟨i0, hi, hz0, hz1, hz2⟩ := info_parts infoB
  have hbd := H.bd
  have hlen := H.len
  have hle := H.le
  have hmx := H.max
  have n0 : (0 : Int) ≤ (n : Int) := by omega
  have n63 : (n : Int) ≤ 1000 := by omega
  have hw64 : IntKind.u64.wrap (n : Int) = (n : Int) := by simp [IntKind.wrap, IntKind.bits, IntKind.signed]; omega
  obtain ⟨tb, htb⟩ : ∃ tb, Hid (w.heap.size = tb) := ⟨_, rfl⟩
  have hbw : Hid (∀ o, Below w.heap.size w ((w.alloc (.cells #[.int .i64 3, .int .i64 0, .string ⟨#[]⟩, .slice (some ⟨b, 0, none⟩) n c] 67)).drew.alloc o)) := fun o => ((Below.refl _ w).alloc (Nat.le_refl _) _).drew.alloc (by simp) o
  have hB1 : EncW w (w.alloc (.cells #[.int .i64 3, .int .i64 0, .string ⟨#[]⟩, .slice (some ⟨b, 0, none⟩) n c] 67)) tb [.int .i64 3, .int .i64 0, .string ⟨#[]⟩, .slice (some ⟨b, 0, none⟩) n c] := ⟨htb.out ▸ Blk.new w _ _, by simp⟩
  have hS := EncW.mk' (i := 3) rfl hB1
  have ho1 : Hid (∀ W : World, W.ownsRow (w.heap.size + 1) 5 1 (.slice none 0 0) 0 (bv [])) := fun W => World.ownsRow_nil W _ _ _
  have hsz : Hid (∀ o, w.heap.size + 1 ≤ ((w.alloc (.cells #[.int .i64 3, .int .i64 0, .string ⟨#[]⟩, .slice (some ⟨b, 0, none⟩) n c] 67)).drew.alloc o).heap.size) := fun o => by simp
  have hcn : Hid (∀ j u, [Value.int .u8 3][j]? = some u → (((w.alloc (.cells #[.int .i64 3, .int .i64 0, .string ⟨#[]⟩, .slice (some ⟨b, 0, none⟩) n c] 67)).alloc (.cells #[.int .u8 3] 5)).drew).cell? ((⟨w.heap.size + 1, 0, none⟩ : Addr).add j) = some u) := by
    have h := cell_one_new (w.alloc (.cells #[.int .i64 3, .int .i64 0, .string ⟨#[]⟩, .slice (some ⟨b, 0, none⟩) n c] 67)) (.int .u8 3) 5
    rw [show (w.alloc (.cells #[.int .i64 3, .int .i64 0, .string ⟨#[]⟩, .slice (some ⟨b, 0, none⟩) n c] 67)).heap.size = w.heap.size + 1 by simp] at h
    exact h
  have hto : Hid (∀ k, (Value.slice none 0 0).ownBlock = some k → tb ≠ k) := fun k hk => by cases hk
  have hnum : Hid (∀ v1 w1, w1.ownsRow (w.heap.size + 1) 5 1 v1 (0 + 1) (bv ([] ++ [3])) → w.heap.size + 1 ≤ w1.heap.size → Calls Tryd.prog 65 #[v1, .int .u64 (n : Int)] w1 (OwnsG (w.heap.size + 1) v1 (0 + 1 + (Cod.numl n).length) ([] ++ [3] ++ Cod.numl n) w1)) := fun v1 w1 h1 h2 => numeral_any (w.heap.size + 1) v1 (0 + 1) n _ (by omega) w1 h1 h2 (by omega)
  have hH := Lib.hid H
  have hWt := Lib.hid hW
  clear hB1 H hW
  generalize hX : OwnsB w.heap.size (encL l).length (encL l) w = X at *
  have hX' := Lib.hid hX
  clear hX
  go_enter Tryd.func68, Tryd.ntmps68
  go_wp2_with fail
  rw [htb.out]
  go_region_held3 (fun wz => wz.cell? ⟨tb, 3, none⟩ = some (.slice (some ⟨b, 0, none⟩) n c) ∧ EncW w wz tb [.int .i64 3, .int .i64 0, .string ⟨#[]⟩, .slice (some ⟨b, 0, none⟩) n c]) (repeat (first | assumption | apply EncW.drewB | apply EncW.allocB))
    (first
      | (refine step_append_own rfl (.tmp 8) (.tmp 9) 46 rfl 5 i0 (.int .u8 0) 1 1 Tryd.underlying46 hi hz0 hz1 hz2 rfl (by decide) (w.heap.size + 1) (.slice none 0 0) 0 (bv []) rfl (ho1.out _) ⟨_, 0, none⟩ 1 1 [.int .u8 3] rfl rfl hcn.out (bv_one [3]) (by unfold maxLen; omega) (by omega) (hsz.out _) ?_; intro v1 w1 hown1 hgrow1 hat1; have hG1 := Grw.appB (hbw.out _) hgrow1 hat1; have hsq : w1.cell? ⟨tb, 3, none⟩ = some (.slice (some ⟨b, 0, none⟩) n c) ∧ EncW w w1 tb [.int .i64 3, .int .i64 0, .string ⟨#[]⟩, .slice (some ⟨b, 0, none⟩) n c] := EncW.mk' rfl (EncW.grown (And.right (by assumption)) hgrow1 hto.out); have hap1 := EncW.apart (And.right (by assumption)) hto.out hat1; have hs1 := Nat.le_trans (hsz.out (.cells #[.int .u8 3] 5)) hgrow1.size)
      | (go_at_call 65; refine (hnum.out v1 _ (by rw [bv_append]; exact hown1) hs1).mono ?_; rintro e w2 ⟨v2, rfl, hown2, hG2⟩; have hsq2 : w2.cell? ⟨tb, 3, none⟩ = some (.slice (some ⟨b, 0, none⟩) n c) ∧ EncW w w2 tb [.int .i64 3, .int .i64 0, .string ⟨#[]⟩, .slice (some ⟨b, 0, none⟩) n c] := EncW.mk' rfl (EncW.grown hsq.2 hG2.1 hap1)))
  have t3 := hsq2.1
  have hs2 := Lib.hid (Nat.le_trans hs1 hG2.1.size)
  have hown3 := Lib.hid (show w2.ownsRow (w.heap.size + 1) 5 1 v2 (3 :: Cod.numl n).length (bv (3 :: Cod.numl n)) by rw [show (3 :: Cod.numl n).length = 0 + 1 + (Cod.numl n).length by simp; omega]; exact hown2)
  have hb2 := Lib.hid ((hG1.trans hG2).below (B := w.heap.size) (fun k hk => by cases hk) (Nat.le_refl _))
  clear hown1 hgrow1 hat1 hG1 hsq hap1 hs1 hown2 hG2 hsq2 hnum hto hcn hsz ho1 hS hbw hi hz0 hz1 hz2
  go_wp2_with fail
  go_loopw [0, 19] (fun vb i wr => ∃ (k : Nat) (ys : List Nat), k ≤ n ∧ i = .int .i64 k ∧ Hid (ys ++ ((l.drop k).map encF).flatten = encL l) ∧ Hid (wr.ownsRow (w.heap.size + 1) 5 1 vb ys.length (bv ys)) ∧ w.heap.size + 1 ≤ wr.heap.size ∧ Hid (Below w.heap.size w wr)) (fun _ i _ => n - (intOf i).toNat)
  case atStart => exact ⟨0, 3 :: Cod.numl n, Nat.zero_le _, rfl, by show _ = _; rw [List.drop_zero]; unfold encL; rw [hlen]; rfl, hown3.out, hs2.out, hb2.out⟩
  case round =>
    obtain ⟨k, ys, hk, rfl, hy, ho, hsr, hb⟩ := hrel
    by_cases hlt : k < n
    · have hkl : k < l.length := by omega
      obtain ⟨x, hx⟩ : ∃ x, l[k]? = some x := ⟨_, List.getElem?_eq_getElem hkl⟩
      have hrow := (hH.out.below hb.out).row hx
      have hokx := hok x (List.mem_of_getElem? hx)
      have hWr := hWt.out.below hb.out hWt.out.wr.lt hWt.out.var.lt
      have k0 : (0 : Int) ≤ (k : Int) := by omega
      have k1 : (k : Int) < (n : Int) := by omega
      have hyl : ys.length ≤ 3000000 := by
        have h1 := congrArg List.length hy.out
        have h2 := encs_len l hok
        have h3 := Cod.numl_len64 (u := l.length) (by omega)
        simp only [encL, List.length_append, List.length_cons] at h1
        omega
      have hy2 : Hid ((ys ++ encF x) ++ ((l.drop (k + 1)).map encF).flatten = encL l) := by
        show _ = _
        rw [← hy.out, List.append_assoc]
        congr 1
        rw [List.drop_eq_getElem_cons hkl, List.getElem?_eq_getElem hkl |>.symm.trans hx |> Option.some.inj]
        rfl
      cases x with
      | int m =>
        have d0 := hrow 0 _ rfl
        have d1 := hrow 1 _ rfl
        have d2 := hrow 2 _ rfl
        have d3 := hrow 3 _ rfl
        rw [Nat.add_zero] at d0
        clear hrow
        have hcl := Lib.hid (writeI_any (w.heap.size + 1) u0 ys.length m hokx ys ((wr.alloc (.cells (fvC (.int m)).toArray 67)).drew) (ho.out.alloc _) (Nat.le_trans hsr (by simp)) (by omega))
        have hbe : Hid (Below wr.heap.size wr ((wr.alloc (.cells (fvC (.int m)).toArray 67)).drew)) := ((Below.refl _ wr).alloc (Nat.le_refl _) _).drew
        simp only [fvC] at hcl hbe
        have q0 := (hWr.var.alloc (.cells #[.int .i64 1, .int .i64 m, .string ⟨#[]⟩, .slice none 0 0] 67)).at_ (i := 0) rfl
        have q1 := (hWr.wr.alloc (.cells #[.int .i64 1, .int .i64 m, .string ⟨#[]⟩, .slice none 0 0] 67)).at_ (i := 1) rfl
        have hnb := Blk.new wr 67 [.int .i64 1, .int .i64 m, .string ⟨#[]⟩, .slice none 0 0]
        have r0 := hnb.at_ (i := 0) rfl
        have r1 := hnb.at_ (i := 1) rfl
        have r2 := hnb.at_ (i := 2) rfl
        have r3 := hnb.at_ (i := 3) rfl
        clear hnb hWr
        go_wp2_with fail
        generalize wr.alloc (.cells #[.int .i64 1, .int .i64 m, .string ⟨#[]⟩, .slice none 0 0] 67) = wq at *
        go_still_tail 9, (by kernel_rfl)
        repeat still_step
        change wpList _ _ _ _ _ wq.drew
        go_wp2_with fail
        refine hcl.out.mono ?_
        rintro e w5 ⟨v5, rfl, ho5, hb5⟩
        have hs5 := Nat.le_trans hsr (Nat.le_trans hbe.out.size hb5.size)
        have hb6 := Lib.hid ((hb.out.trans (hbe.out.mono (by omega))).trans (hb5.mono (by omega)))
        rw [← List.length_append] at ho5
        have ho6 := Lib.hid ho5
        clear hcl hbe hb5 ho5 q0 q1 r0 r1 r2 r3 d0 d1 d2 d3
        go_wp2_with fail
        go_roundw
        case rel => exact ⟨k + 1, ys ++ encF (.int m), by omega, by go_num, hy2, ho6, hs5, hb6⟩
        case measure => simp [intOf]; omega
      | text m =>
        have d0 := hrow 0 _ rfl
        have d1 := hrow 1 _ rfl
        have d2 := hrow 2 _ rfl
        have d3 := hrow 3 _ rfl
        rw [Nat.add_zero] at d0
        clear hrow
        have hcl := Lib.hid (writeT_any (w.heap.size + 1) u0 ys.length m (by have : m.size ≤ 1000 := hokx; omega) ys ((wr.alloc (.cells (fvC (.text m)).toArray 67)).drew) (ho.out.alloc _) (Nat.le_trans hsr (by simp)) (by omega))
        have hbe : Hid (Below wr.heap.size wr ((wr.alloc (.cells (fvC (.text m)).toArray 67)).drew)) := ((Below.refl _ wr).alloc (Nat.le_refl _) _).drew
        simp only [fvC] at hcl hbe
        have q0 := (hWr.var.alloc (.cells #[.int .i64 2, .int .i64 0, .string m, .slice none 0 0] 67)).at_ (i := 0) rfl
        have q1 := (hWr.wr.alloc (.cells #[.int .i64 2, .int .i64 0, .string m, .slice none 0 0] 67)).at_ (i := 2) rfl
        have hnb := Blk.new wr 67 [.int .i64 2, .int .i64 0, .string m, .slice none 0 0]
        have r0 := hnb.at_ (i := 0) rfl
        have r1 := hnb.at_ (i := 1) rfl
        have r2 := hnb.at_ (i := 2) rfl
        have r3 := hnb.at_ (i := 3) rfl
        clear hnb hWr
        go_wp2_with fail
        generalize wr.alloc (.cells #[.int .i64 2, .int .i64 0, .string m, .slice none 0 0] 67) = wq at *
        go_still_tail 9, (by kernel_rfl)
        repeat still_step
        change wpList _ _ _ _ _ wq.drew
        go_wp2_with fail
        refine hcl.out.mono ?_
        rintro e w5 ⟨v5, rfl, ho5, hb5⟩
        have hs5 := Nat.le_trans hsr (Nat.le_trans hbe.out.size hb5.size)
        have hb6 := Lib.hid ((hb.out.trans (hbe.out.mono (by omega))).trans (hb5.mono (by omega)))
        rw [← List.length_append] at ho5
        have ho6 := Lib.hid ho5
        clear hcl hbe hb5 ho5 q0 q1 r0 r1 r2 r3 d0 d1 d2 d3
        go_wp2_with fail
        go_roundw
        case rel => exact ⟨k + 1, ys ++ encF (.text m), by omega, by go_num, hy2, ho6, hs5, hb6⟩
        case measure => simp [intOf]; omega
    · obtain rfl : k = n := by omega
      have hyf : ys = encL l := by
        have h1 := hy.out
        rw [List.drop_eq_nil_of_le (by omega)] at h1
        simpa using h1
      subst hyf
      go_wp2_with fail
      rw [← hX'.out]
      exact ⟨u0, rfl, ownsRow_base ho.out (by omega), hb.out⟩

/-- what Encode gives. -/
def EncP (xs : List Nat) (w : World) (e : Ending) (w' : World) : Prop := ∃ v', e = .returned (.tuple #[v', .int .i64 0]) ∧ w'.ownsRow w.heap.size 5 1 v' xs.length (bv xs) ∧ Below w.heap.size w w'
set_option maxRecDepth 20000 in
set_option maxHeartbeats 2000000 in
theorem Encode_any (b n c : Nat) (l : List FV) (hok : ∀ x ∈ l, FVok x) (w : World) (H : FS w b n c l) :
    Calls Tryd.prog 21 #[.agg #[.int .i64 3, .int .i64 0, .string ⟨#[]⟩, .slice (some ⟨b, 0, none⟩) n c]] w (EncP (encL l) w) := by
  obtain ⟨tb, htb⟩ : ∃ tb, Hid (w.heap.size = tb) := ⟨_, rfl⟩
  have hB1 : Hid (Blk (w.alloc (.cells #[.int .i64 3, .int .i64 0, .string ⟨#[]⟩, .slice (some ⟨b, 0, none⟩) n c] 67)) tb 67 [.int .i64 3, .int .i64 0, .string ⟨#[]⟩, .slice (some ⟨b, 0, none⟩) n c]) := by rw [← htb.out]; exact Blk.new w _ _
  have hb1 := Lib.hid ((Below.refl w.heap.size w).alloc (Nat.le_refl _) (.cells #[.int .i64 3, .int .i64 0, .string ⟨#[]⟩, .slice (some ⟨b, 0, none⟩) n c] 67))
  have hchk := Lib.hid (codecCheck_any b n c l _ (H.below hb1.out))
  have H' := Lib.hid H
  clear H
  go_enter Tryd.func21, Tryd.ntmps21
  go_wp2_with fail
  refine hchk.out.mono ?_
  rintro e w2 ⟨rfl, hb2⟩
  have hb3 := Lib.hid (hb1.out.trans (hb2.mono hb1.out.size))
  have hB2 := hB1.out.below hb2 hB1.out.lt
  have r0 := hB2.at_ (i := 0) rfl
  have r1 := hB2.at_ (i := 1) rfl
  have r2 := hB2.at_ (i := 2) rfl
  have r3 := hB2.at_ (i := 3) rfl
  have hB3 := Lib.hid hB2
  have hnw := Lib.hid (fun W => newWriter_any W)
  clear hchk hb1 hB1 hb2 hB2
  rw [htb.out]
  go_wp2_with fail
  go_region_with (first
    | (go_at_call 45; refine (hnw.out _).mono ?_; rintro e w3 ⟨wb, pb, rfl, hWt, hwb, hpb, hbn⟩; have hbr : Below w2.heap.size w2 w3 := (Below.refl _ w2).drew.trans hbn; have hB4 := hB3.out.below hbr hB3.out.lt; have s0 := hB4.at_ (i := 0) rfl; have s1 := hB4.at_ (i := 1) rfl; have s2 := hB4.at_ (i := 2) rfl; have s3 := hB4.at_ (i := 3) rfl; have q3 := hWt.wr.at_ (i := 3) rfl)
    | (refine (writeL_any b n c l hok wb pb w3 (H'.out.below (hb3.out.trans (hbr.mono hb3.out.size))) hWt).mono ?_; rintro e w4 ⟨v4, rfl, ho4, hb4⟩))
  all_goals
    have hb5 := hb3.out.trans (hbr.mono hb3.out.size)
    go_wp2_with fail
    go_ret2
    exact ⟨v4, rfl, ownsRow_base ho4 hb5.size, hb5.trans (hb4.mono hb5.size)⟩
end Go.Proofs.YtgfmdjagamjpbaaDoor
