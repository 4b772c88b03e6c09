/- sane: the chapter's examples hold -/
import Derived.Test.YtlpgjdlkjahdgaaGreatDoorSnp
import Derived.Lib.SlBytesConst
namespace Go.Proofs.YtlpgjdlkjahdgaaGreatDoor
open Go.RowKit Go.Mem
open Go.Sto (Ent Lg St)

theorem sizeSt : (Tryz.prog.info? 24).map (·.size) = some 3 := by kernel_rfl
theorem stC_one (s : St) (a : Option Addr) (n c : Nat) : ∀ u ∈ stC s a n c, u.oneCell' = true := by
  intro u hu
  simp only [stC, List.mem_cons, List.not_mem_nil, or_false] at hu
  rcases hu with rfl | rfl | rfl <;> rfl
theorem zs_one : ∀ u ∈ ([.int .i64 0, .int .i64 0, .slice none 0 0] : List Value), u.oneCell' = true := by
  intro u hu
  simp only [List.mem_cons, List.not_mem_nil, or_false] at hu
  rcases hu with rfl | rfl | rfl <;> rfl
theorem new_ok (s : St) (h1 : s.id = 1) (h7 : s.priv = 7) (w : World) : Calls Tryz.prog 11 #[.int .i64 1, .int .i64 7] w (fun e w' => e = .returned (.tuple #[.agg #[.int .i64 s.id, .int .i64 s.priv, .slice none 0 0], .int .i64 0]) ∧ Below w.heap.size w w') := by
  have h := New_any 1 7 w
  have e : Sto.newE 1 7 = 0 := by decide
  unfold NewPost at h
  rw [e, if_pos rfl, ← h1, ← h7] at h
  rw [h1, h7] at h ⊢
  exact h
theorem new_bad (w : World) : Calls Tryz.prog 11 #[.int .i64 4, .int .i64 1] w (fun e w' => e = .returned (.tuple #[.agg #[.int .i64 0, .int .i64 0, .slice none 0 0], .int .i64 300]) ∧ Below w.heap.size w w') := by
  have h := New_any 4 1 w
  have e : Sto.newE 4 1 = 300 := by decide
  unfold NewPost at h
  rw [e, if_neg (by decide)] at h
  exact h
theorem ex_sv {s x d : St} {e : Ent} (h : Sto.Ex s x d e) (w : World) : SV (fun _ => True) w none 0 0 s := by
  refine ⟨?_, ?_, ?_⟩
  · rw [h.logs]; exact LS.nil0 _ _
  · rw [h.id]; exact ⟨by decide, by decide⟩
  · rw [h.priv]; exact ⟨by decide, by decide⟩
section
variable {W : World} {a : Option Addr} {n c : Nat} {s x : St} {f kind no q : Int} {data : List Nat} {da : Option Addr} {dn dc : Nat}
theorem put_ok (h : Sto.putS s f kind data = (x, no, q)) (hf : I64 f) (hk : I64 kind) (HT : Tabs W) (H : SV (fun _ => True) W a n c s) (HD : BS W da dn dc data) (hdn : dn ≤ 1000000 := by decide) :
    Calls Tryz.prog 16 #[.agg #[.int .i64 s.id, .int .i64 s.priv, .slice a n c], .int .i64 f, .int .i64 kind, .slice da dn dc] W (PuttPost x no q W) := by
  have h' := Put_any a n c s f kind hf hk da dn dc data W HT H (bw_of HD) hdn
  rw [h] at h'
  exact h'
theorem del_ok (h : Sto.delS s f no = (x, q)) (hf : I64 f) (hno : I64 no) (HT : Tabs W) (H : SV (fun _ => True) W a n c s) :
    Calls Tryz.prog 20 #[.agg #[.int .i64 s.id, .int .i64 s.priv, .slice a n c], .int .i64 f, .int .i64 no] W (DelPost x q W) := by
  have h' := Delete_any a n c s f no hf hno W HT H
  rw [h] at h'
  exact h'
theorem fet_ok {l : Ent} (h : Sto.fetchS s f no = ([l], q)) (hno : I64 no) (HT : Tabs W) (H : SV (fun _ => True) W a n c s) :
    Calls Tryz.prog 18 #[.agg #[.int .i64 s.id, .int .i64 s.priv, .slice a n c], .int .i64 f, .int .i64 no] W (fun e w' => ∃ a c, e = .returned (.tuple #[.slice a 1 c, .int .i64 q]) ∧ ES (fun _ => True) w' a 1 c [l] ∧ Below W.heap.size W w') := by
  have h' := Fetch_any a n c s f no hno W HT H
  rw [h] at h'
  exact h'.mono fun e w' ⟨a, c, h1, h2, h3⟩ => ⟨a, c, h1, h2.imp fun _ _ _ => trivial, h3⟩
theorem fet0_ok (h : Sto.fetchS s f no = ([], q)) (hno : I64 no) (HT : Tabs W) (H : SV (fun _ => True) W a n c s) :
    Calls Tryz.prog 18 #[.agg #[.int .i64 s.id, .int .i64 s.priv, .slice a n c], .int .i64 f, .int .i64 no] W (fun e w' => ∃ a c, e = .returned (.tuple #[.slice a 0 c, .int .i64 q]) ∧ Below W.heap.size W w') := by
  have h' := Fetch_any a n c s f no hno W HT H
  rw [h] at h'
  exact h'.mono fun e w' ⟨a, c, h1, h2, h3⟩ => ⟨a, c, h1, h3⟩
end
theorem conv_bytes (W : World) : (convert 33 33 (.slice (some ⟨W.heap.size, 0, none⟩) 1 1)).run Tryz.prog (W.alloc (.cells #[.int .u8 97] 5)) = .ok (.slice (some ⟨W.heap.size, 0, none⟩) 1 1) (W.alloc (.cells #[.int .u8 97] 5 (1, 2))) :=
  Lib.run_convert_bytes_const (P := Tryz.prog) W 33 5 #[.int .u8 97] 1 1 Tryz.underlying33 Tryz.underlying5
theorem bs97 (W : World) : BS (W.alloc (.cells #[.int .u8 97] 5 (1, 2))) (some ⟨W.heap.size, 0, none⟩) 1 1 [97] := by
  refine ⟨rfl, Nat.le_refl _, by decide, (fun h => by cases h), fun ad h => ?_, fun x hx => ?_⟩
  · cases h
    have hg : (W.alloc (.cells #[.int .u8 97] 5 (1, 2))).heap[W.heap.size]? = some (.cells #[.int .u8 97] 5 (1, 2)) := by show (W.heap.push _)[W.heap.size]? = _; simp
    refine ⟨W.heap.size, 0, rfl, (Array.getElem?_eq_some_iff.1 hg).1, fun i x hx => ?_⟩
    cases i with
    | zero =>
      simp only [List.getElem?_cons_zero, Option.some.injEq] at hx
      subst hx
      simp only [World.cell?, hg]
      rfl
    | succ i => simp at hx
  · simp only [List.mem_cons, List.not_mem_nil, or_false] at hx
    omega
theorem bs_nil (W : World) : BS W none 0 0 [] := ⟨rfl, Nat.le_refl _, by decide, fun _ => ⟨rfl, rfl⟩, (fun ad e => by cases e), (fun x hx => by cases hx)⟩

/-- what the last region keeps. -/
def SneW (w : World) (g9 g10 : Nat) (r1 r2 : List Value) (wz : World) : Prop := Blk wz g9 47 r1 ∧ Blk wz g10 47 r2 ∧ Below w.heap.size w wz
section
variable {w wz wq : World} {g9 g10 : Nat} {r1 r2 : List Value} {i1 f1 R1 S1 i2 f2 R2 S2 : Int} {D1 D2 : List Nat}
theorem SneW.mk' (h1 : HeadR i1 f1 1 R1 S1 D1 r1) (h2 : HeadR i2 f2 0 R2 S2 D2 r2) (h : SneW w g9 g10 r1 r2 wz) :
    wz.cell? ⟨g9, 2, none⟩ = some (.int .i64 1) ∧ wz.rangeAt g9 0 r1 ∧ wz.cell? ⟨g10, 2, none⟩ = some (.int .i64 0) ∧ wz.rangeAt g10 3 (bv D2) ∧ SneW w g9 g10 r1 r2 wz := by
  refine ⟨h.1.at_ h1.at0.2.2, h.1.range, h.2.1.at_ h2.at0.2.2, fun j v hv => h.2.1.at_ ?_, h⟩
  rw [← h2.eq]
  unfold headC
  have hj := (List.getElem?_eq_some_iff.1 hv).1
  rw [List.getElem?_append_right (by simp), List.getElem?_append_left (by simp; omega)]
  simpa using hv
theorem SneW.drew (h : SneW w g9 g10 r1 r2 wz) : SneW w g9 g10 r1 r2 wz.drew := ⟨h.1, h.2.1, h.2.2.drew⟩
theorem SneW.next (h1 : HeadR i1 f1 1 R1 S1 D1 r1) (h2 : HeadR i2 f2 0 R2 S2 D2 r2) (h : wz.cell? ⟨g9, 2, none⟩ = some (.int .i64 1) ∧ wz.rangeAt g9 0 r1 ∧ wz.cell? ⟨g10, 2, none⟩ = some (.int .i64 0) ∧ wz.rangeAt g10 3 (bv D2) ∧ SneW w g9 g10 r1 r2 wz) (hb : Below wz.heap.size wz wq) :
    wq.cell? ⟨g9, 2, none⟩ = some (.int .i64 1) ∧ wq.rangeAt g9 0 r1 ∧ wq.cell? ⟨g10, 2, none⟩ = some (.int .i64 0) ∧ wq.rangeAt g10 3 (bv D2) ∧ SneW w g9 g10 r1 r2 wq :=
  SneW.mk' h1 h2 ⟨h.2.2.2.2.1.below hb h.2.2.2.2.1.lt, h.2.2.2.2.2.1.below hb h.2.2.2.2.2.1.lt, h.2.2.2.2.2.2.trans (hb.mono h.2.2.2.2.2.2.size)⟩
end
theorem tagged_log {W : World} {tb : Nat} (HT : Tabs W) (hB : Blk W tb 5 [.int .u8 3]) :
    Calls Tryz.prog 47 #[.string ⟨#[108, 111, 103]⟩, .slice (some ⟨tb, 0, none⟩) 1 1] W (DigPost (chainD 3 []) W) :=
  tagged_any ⟨#[108, 111, 103]⟩ (by decide) _ 1 1 _ W HT (one_bs (k := 3) hB) (by decide)

set_option maxRecDepth 100000 in
set_option maxHeartbeats 8000000 in
theorem sane_any (w : World) (HT : Tabs w) : Calls Tryz.prog 9 #[] w (RetBo true w) := by
  have HT' := Lib.hid HT
  clear HT
  have hcv := conv_bytes
  obtain ⟨s, x, d, E, hEx⟩ := Sto.ex_there
  have hok1 := signHd_ok x 3 1 [E.dig] (by rw [hEx.xpriv]; decide) (by rw [hEx.xid]; decide) (by decide) (by decide)
  have hok2 := signHd_ok s 3 0 [] (by rw [hEx.priv]; decide) (by rw [hEx.id]; decide) (by decide) (by decide)
  have hsg1 := Lib.hid (fun W a c ea ec (hT : Tabs W) (hS : SV (fun _ => True) W a x.logs.length c x) (hE : ES (fun _ => True) W ea 1 ec [E]) => storeSign_any a x.logs.length c x 3 ⟨by decide, by decide⟩ (fun _ => True) ea 1 ec [E] (by
    intro e he
    rw [List.mem_singleton] at he
    subst he
    exact ⟨hEx.dig.1, hEx.dig.2, by rw [hEx.kind]; decide, by rw [hEx.kind]; decide, by rw [hEx.data]; decide⟩) (by decide) W hT hS hE hEx.op1)
  have hsg2 := Lib.hid (fun W (hT : Tabs W) (hS : SV (fun _ => True) W none 0 0 s) => storeSign_any none 0 0 s 3 ⟨by decide, by decide⟩ (fun _ => True) none 0 0 [] (by intro e he; cases he) (by decide) W hT hS (ES.nil0 _ _) hEx.op2)
  have hpub := Lib.hid (fun W => Public_any 7 W)
  rw [publicK_t (by decide)] at hpub
  rw [hEx.xpriv] at hok1
  obtain ⟨p, hp⟩ : ∃ p, Hid (pubB 4 7 = p) := ⟨_, rfl⟩
  rw [hp.out] at hok1 hpub
  clear hp
  obtain ⟨r1, hr⟩ : ∃ r, Hid (signHd x 3 1 [E.dig] = r) := ⟨_, rfl⟩
  simp only [List.map_cons, List.map_nil] at hsg1 hsg2
  rw [hr.out] at hok1 hsg1
  clear hr
  obtain ⟨r2, hr⟩ : ∃ r, Hid (signHd s 3 0 [] = r) := ⟨_, rfl⟩
  rw [hr.out] at hok2 hsg2
  clear hr
  obtain ⟨⟨R1, S1, hr1⟩, hver⟩ := hok1
  obtain ⟨⟨R2, S2, hr2⟩, _⟩ := hok2
  have hver' := Lib.hid hver
  clear hver
  have htag := Lib.hid (fun (W : World) (tb : Nat) (hT : Tabs W) (hB : Blk W tb 5 [.int .u8 3]) => tagged_log hT hB)
  have hc2 := chain_len 3 []
  obtain ⟨D2, hD2⟩ : ∃ D, Hid (chainD 3 [] = D) := ⟨_, rfl⟩
  rw [hD2.out] at hr2 htag hc2
  clear hD2
  obtain ⟨D1, hD1⟩ : ∃ D, Hid (chainD 3 [E.dig] = D) := ⟨_, rfl⟩
  rw [hD1.out] at hr1
  clear hD1
  obtain ⟨X, hX⟩ : ∃ X, X = RetBo true w := ⟨_, rfl⟩
  have hfin : Hid (∀ W, Below w.heap.size w W → X (.returned (.bool true)) W) := fun W h => by rw [hX]; exact ⟨rfl, h⟩
  rw [← hX]
  clear hX
  go_enter Tryz.func9, Tryz.ntmps9
  go_wp2_with fail
  refine (new_ok s hEx.id hEx.priv _).mono ?_
  rintro e w1 ⟨rfl, hb1⟩
  have hbw := Lib.hid hb1
  clear hb1
  obtain ⟨v1, hP⟩ : ∃ V, Hid (PutR 24 (w1.alloc (.cells ([.int .i64 0, .int .i64 0, .slice none 0 0] : List Value).toArray 24)) V w1.heap.size 24 (stC s none 0 0)) := put_row (Blk.new w1 24 [.int .i64 0, .int .i64 0, .slice none 0 0]) rfl (by first | exact sizeSt | (rw [hlr]; exact sizeSt)) (by intro u hu; simp only [stC, List.mem_cons, List.not_mem_nil, or_false] at hu; rcases hu with rfl | rfl | rfl <;> rfl)
  have hst := below_grown ((Below.refl _ w1).alloc (Nat.le_refl _) _) hP.out.grown (by simp) (Nat.le_refl _)
  have hbw' := Lib.hid (hbw.out.trans (hst.mono hbw.out.size))
  clear hbw
  have hbw := hbw'
  clear hbw'
  clear hst
  have hBs := Lib.hid hP.out.blk
  have hSs : Hid (SV (fun _ => True) v1 none 0 0 s) := ex_sv hEx _
  go_wp2_with (first
    | (refine wpList_store_mid (by rfl) 24 (.tmp 1) (.tmp 34) (by rfl) w1.heap.size 0 (stC s none 0 0).toArray (by rfl) (by rfl) hP.out.there hP.out.info (by simpa using hP.out.one) ?_
       generalize hWq : World.setCells _ _ _ _ = Wa
       obtain rfl : v1 = Wa := by rw [← hWq]; exact hP.out.eq
       clear hWq))
  clear hP
  refine (new_bad _).mono ?_
  rintro e w2 ⟨rfl, hb⟩
  have hBs' := Lib.hid (hBs.out.below hb hBs.out.lt)
  have hSs' := Lib.hid (hSs.out.below hb)
  clear hBs hSs
  have hBs := hBs'; have hSs := hSs'
  clear hBs' hSs'
  have hbw' := Lib.hid (hbw.out.trans (hb.mono hbw.out.size))
  clear hbw
  have hbw := hbw'
  clear hbw'
  clear hb
  obtain ⟨v2, hP⟩ : ∃ V, Hid (PutR 24 (w2.alloc (.cells ([.int .i64 0, .int .i64 0, .slice none 0 0] : List Value).toArray 24)) V w2.heap.size 24 ([.int .i64 0, .int .i64 0, .slice none 0 0])) := put_row (Blk.new w2 24 [.int .i64 0, .int .i64 0, .slice none 0 0]) rfl (by first | exact sizeSt | (rw [hlr]; exact sizeSt)) zs_one
  have hst := below_grown ((Below.refl _ w2).alloc (Nat.le_refl _) _) hP.out.grown (by simp) (Nat.le_refl _)
  have hBs' := Lib.hid (hBs.out.below hst hBs.out.lt)
  have hSs' := Lib.hid (hSs.out.below hst)
  clear hBs hSs
  have hBs := hBs'; have hSs := hSs'
  clear hBs' hSs'
  have hbw' := Lib.hid (hbw.out.trans (hst.mono hbw.out.size))
  clear hbw
  have hbw := hbw'
  clear hbw'
  clear hst
  have l0 := hBs.out.at_ (i := 0) rfl
  have l1 := hBs.out.at_ (i := 1) rfl
  have l2 := hBs.out.at_ (i := 2) rfl
  go_wp2_with (first
    | (refine wpList_store_mid (by rfl) 24 (.tmp 3) (.tmp 38) (by rfl) w2.heap.size 0 ([.int .i64 0, .int .i64 0, .slice none 0 0]).toArray (by rfl) (by rfl) hP.out.there hP.out.info (by simpa using hP.out.one) ?_
       generalize hWq : World.setCells _ _ _ _ = Wa
       obtain rfl : v2 = Wa := by rw [← hWq]; exact hP.out.eq
       clear hWq))
  clear l0 l1 l2
  clear hP
  refine (put_ok (hEx.put1) (show I64 3 from ⟨by decide, by decide⟩) ⟨by decide, by decide⟩ (HT'.out.below (hbw.out.alloc hbw.out.size _)) (hSs.out.below ((Below.refl _ v2).alloc (Nat.le_refl _) _)) (bs97 v2)).mono ?_
  rintro e w3 ⟨a3, c3, rfl, hS, hb⟩
  have hb' : Below v2.heap.size v2 w3 := ((Below.refl _ v2).alloc (Nat.le_refl _) _).trans (hb.mono (by simp))
  have hBs' := Lib.hid (hBs.out.below hb' hBs.out.lt)
  have hSs' := Lib.hid (hSs.out.below hb')
  clear hBs hSs
  have hBs := hBs'; have hSs := hSs'
  clear hBs' hSs'
  have hbw' := Lib.hid (hbw.out.trans (hb'.mono hbw.out.size))
  clear hbw
  have hbw := hbw'
  clear hbw'
  clear hb hb'
  have hSx : Hid (SV (fun _ => True) w3 a3 x.logs.length c3 x) := hS.imp fun _ _ _ => trivial
  clear hS
  obtain ⟨v3, hP⟩ : ∃ V, Hid (PutR 24 (w3.alloc (.cells ([.int .i64 0, .int .i64 0, .slice none 0 0] : List Value).toArray 24)) V w3.heap.size 24 (stC x a3 x.logs.length c3)) := put_row (Blk.new w3 24 [.int .i64 0, .int .i64 0, .slice none 0 0]) rfl sizeSt (stC_one _ _ _ _)
  have hst := below_grown ((Below.refl _ w3).alloc (Nat.le_refl _) _) hP.out.grown (by simp) (Nat.le_refl _)
  have hBs' := Lib.hid (hBs.out.below hst hBs.out.lt)
  have hSs' := Lib.hid (hSs.out.below hst)
  clear hBs hSs
  have hBs := hBs'; have hSs := hSs'
  clear hBs' hSs'
  have hbw' := Lib.hid (hbw.out.trans (hst.mono hbw.out.size))
  clear hbw
  have hbw := hbw'
  clear hbw'
  have hSx' := Lib.hid (hSx.out.below hst); clear hSx; have hSx := hSx'; clear hSx'
  clear hst
  have hBx := Lib.hid hP.out.blk
  have l0 := hBx.out.at_ (i := 0) rfl
  have l1 := hBx.out.at_ (i := 1) rfl
  have l2 := hBx.out.at_ (i := 2) rfl
  go_wp2_with (first
    | (refine wpList_store_mid (by rfl) 24 (.tmp 5) (.tmp 45) (by rfl) w3.heap.size 0 (stC x a3 x.logs.length c3).toArray (by rfl) (by rfl) hP.out.there hP.out.info (by simpa using hP.out.one) ?_
       generalize hWq : World.setCells _ _ _ _ = Wa
       obtain rfl : v3 = Wa := by rw [← hWq]; exact hP.out.eq
       clear hWq))
  clear l0 l1 l2
  clear hP
  refine (put_ok (hEx.put2) (show I64 3 from ⟨by decide, by decide⟩) ⟨by decide, by decide⟩ (HT'.out.below (hbw.out.alloc hbw.out.size _)) (hSx.out.below ((Below.refl _ v3).alloc (Nat.le_refl _) _)) (bs97 v3)).mono ?_
  rintro e w4 ⟨a4, c4, rfl, hS, hb⟩
  have hb' : Below v3.heap.size v3 w4 := ((Below.refl _ v3).alloc (Nat.le_refl _) _).trans (hb.mono (by simp))
  have hBs' := Lib.hid (hBs.out.below hb' hBs.out.lt)
  have hSs' := Lib.hid (hSs.out.below hb')
  clear hBs hSs
  have hBs := hBs'; have hSs := hSs'
  clear hBs' hSs'
  have hBx' := Lib.hid (hBx.out.below hb' hBx.out.lt)
  have hSx' := Lib.hid (hSx.out.below hb')
  clear hBx hSx
  have hBx := hBx'; have hSx := hSx'
  clear hBx' hSx'
  have hbw' := Lib.hid (hbw.out.trans (hb'.mono hbw.out.size))
  clear hbw
  have hbw := hbw'
  clear hbw'
  clear hb hb'
  have hSy : Hid (SV (fun _ => True) w4 a4 x.logs.length c4 x) := hS.imp fun _ _ _ => trivial
  clear hS
  obtain ⟨v4, hP⟩ : ∃ V, Hid (PutR 24 (w4.alloc (.cells ([.int .i64 0, .int .i64 0, .slice none 0 0] : List Value).toArray 24)) V w4.heap.size 24 (stC x a4 x.logs.length c4)) := put_row (Blk.new w4 24 [.int .i64 0, .int .i64 0, .slice none 0 0]) rfl sizeSt (stC_one _ _ _ _)
  have hst := below_grown ((Below.refl _ w4).alloc (Nat.le_refl _) _) hP.out.grown (by simp) (Nat.le_refl _)
  have hBs' := Lib.hid (hBs.out.below hst hBs.out.lt)
  have hSs' := Lib.hid (hSs.out.below hst)
  clear hBs hSs
  have hBs := hBs'; have hSs := hSs'
  clear hBs' hSs'
  have hBx' := Lib.hid (hBx.out.below hst hBx.out.lt)
  have hSx' := Lib.hid (hSx.out.below hst)
  clear hBx hSx
  have hBx := hBx'; have hSx := hSx'
  clear hBx' hSx'
  have hbw' := Lib.hid (hbw.out.trans (hst.mono hbw.out.size))
  clear hbw
  have hbw := hbw'
  clear hbw'
  have hSy' := Lib.hid (hSy.out.below hst); clear hSy; have hSy := hSy'; clear hSy'
  clear hst
  have hBy := Lib.hid hP.out.blk
  have l0 := hBs.out.at_ (i := 0) rfl
  have l1 := hBs.out.at_ (i := 1) rfl
  have l2 := hBs.out.at_ (i := 2) rfl
  go_wp2_with (first
    | (refine wpList_store_mid (by rfl) 24 (.tmp 8) (.tmp 53) (by rfl) w4.heap.size 0 (stC x a4 x.logs.length c4).toArray (by rfl) (by rfl) hP.out.there hP.out.info (by simpa using hP.out.one) ?_
       generalize hWq : World.setCells _ _ _ _ = Wa
       obtain rfl : v4 = Wa := by rw [← hWq]; exact hP.out.eq
       clear hWq))
  clear l0 l1 l2
  clear hP
  refine (put_ok hEx.put3 ⟨by decide, by decide⟩ ⟨by decide, by decide⟩ (HT'.out.below hbw.out) hSs.out (bs_nil v4)).mono ?_
  rintro e w5 ⟨a5, c5, rfl, hS, hb⟩
  have hBs' := Lib.hid (hBs.out.below hb hBs.out.lt)
  have hSs' := Lib.hid (hSs.out.below hb)
  clear hBs hSs
  have hBs := hBs'; have hSs := hSs'
  clear hBs' hSs'
  have hBx' := Lib.hid (hBx.out.below hb hBx.out.lt)
  have hSx' := Lib.hid (hSx.out.below hb)
  clear hBx hSx
  have hBx := hBx'; have hSx := hSx'
  clear hBx' hSx'
  have hBy' := Lib.hid (hBy.out.below hb hBy.out.lt)
  have hSy' := Lib.hid (hSy.out.below hb)
  clear hBy hSy
  have hBy := hBy'; have hSy := hSy'
  clear hBy' hSy'
  have hbw' := Lib.hid (hbw.out.trans (hb.mono hbw.out.size))
  clear hbw
  have hbw := hbw'
  clear hbw'
  clear hb hS
  obtain ⟨v5, hP⟩ : ∃ V, Hid (PutR 24 (w5.alloc (.cells ([.int .i64 0, .int .i64 0, .slice none 0 0] : List Value).toArray 24)) V w5.heap.size 24 (stC Sto.zeroS a5 Sto.zeroS.logs.length c5)) := put_row (Blk.new w5 24 [.int .i64 0, .int .i64 0, .slice none 0 0]) rfl (by first | exact sizeSt | (rw [hlr]; exact sizeSt)) (stC_one _ _ _ _)
  have hst := below_grown ((Below.refl _ w5).alloc (Nat.le_refl _) _) hP.out.grown (by simp) (Nat.le_refl _)
  have hBs' := Lib.hid (hBs.out.below hst hBs.out.lt)
  have hSs' := Lib.hid (hSs.out.below hst)
  clear hBs hSs
  have hBs := hBs'; have hSs := hSs'
  clear hBs' hSs'
  have hBx' := Lib.hid (hBx.out.below hst hBx.out.lt)
  have hSx' := Lib.hid (hSx.out.below hst)
  clear hBx hSx
  have hBx := hBx'; have hSx := hSx'
  clear hBx' hSx'
  have hBy' := Lib.hid (hBy.out.below hst hBy.out.lt)
  have hSy' := Lib.hid (hSy.out.below hst)
  clear hBy hSy
  have hBy := hBy'; have hSy := hSy'
  clear hBy' hSy'
  have hbw' := Lib.hid (hbw.out.trans (hst.mono hbw.out.size))
  clear hbw
  have hbw := hbw'
  clear hbw'
  clear hst
  have l0 := hBx.out.at_ (i := 0) rfl
  have l1 := hBx.out.at_ (i := 1) rfl
  have l2 := hBx.out.at_ (i := 2) rfl
  go_wp2_with (first
    | (refine wpList_store_mid (by rfl) 24 (.tmp 11) (.tmp 59) (by rfl) w5.heap.size 0 (stC Sto.zeroS a5 Sto.zeroS.logs.length c5).toArray (by rfl) (by rfl) hP.out.there hP.out.info (by simpa using hP.out.one) ?_
       generalize hWq : World.setCells _ _ _ _ = Wa
       obtain rfl : v5 = Wa := by rw [← hWq]; exact hP.out.eq
       clear hWq))
  clear l0 l1 l2
  clear hP
  refine (fet_ok hEx.fet1 ⟨by decide, by decide⟩ (HT'.out.below hbw.out) hSx.out).mono ?_
  rintro e w6 ⟨a6, c6, rfl, hE, hb⟩
  have hBs' := Lib.hid (hBs.out.below hb hBs.out.lt)
  have hSs' := Lib.hid (hSs.out.below hb)
  clear hBs hSs
  have hBs := hBs'; have hSs := hSs'
  clear hBs' hSs'
  have hBx' := Lib.hid (hBx.out.below hb hBx.out.lt)
  have hSx' := Lib.hid (hSx.out.below hb)
  clear hBx hSx
  have hBx := hBx'; have hSx := hSx'
  clear hBx' hSx'
  have hBy' := Lib.hid (hBy.out.below hb hBy.out.lt)
  have hSy' := Lib.hid (hSy.out.below hb)
  clear hBy hSy
  have hBy := hBy'; have hSy := hSy'
  clear hBy' hSy'
  have hbw' := Lib.hid (hbw.out.trans (hb.mono hbw.out.size))
  clear hbw
  have hbw := hbw'
  clear hbw'
  clear hb
  have hEl := Lib.hid hE
  clear hE
  have l0 := hBx.out.at_ (i := 0) rfl
  have l1 := hBx.out.at_ (i := 1) rfl
  have l2 := hBx.out.at_ (i := 2) rfl
  go_wp2_with fail
  clear l0 l1 l2
  refine (del_ok hEx.del1 ⟨by decide, by decide⟩ ⟨by decide, by decide⟩ (HT'.out.below hbw.out) hSx.out).mono ?_
  rintro e w7 ⟨a7, c7, rfl, hS, hb⟩
  have hBs' := Lib.hid (hBs.out.below hb hBs.out.lt)
  have hSs' := Lib.hid (hSs.out.below hb)
  clear hBs hSs
  have hBs := hBs'; have hSs := hSs'
  clear hBs' hSs'
  have hBx' := Lib.hid (hBx.out.below hb hBx.out.lt)
  have hSx' := Lib.hid (hSx.out.below hb)
  clear hBx hSx
  have hBx := hBx'; have hSx := hSx'
  clear hBx' hSx'
  have hBy' := Lib.hid (hBy.out.below hb hBy.out.lt)
  have hSy' := Lib.hid (hSy.out.below hb)
  clear hBy hSy
  have hBy := hBy'; have hSy := hSy'
  clear hBy' hSy'
  have hEl' := Lib.hid (hEl.out.below hb)
  clear hEl
  have hEl := hEl'
  clear hEl'
  have hbw' := Lib.hid (hbw.out.trans (hb.mono hbw.out.size))
  clear hbw
  have hbw := hbw'
  clear hbw'
  clear hb
  have hSd : Hid (SV (fun _ => True) w7 a7 d.logs.length c7 d) := hS.imp fun _ _ _ => trivial
  clear hS
  obtain ⟨v7, hP⟩ : ∃ V, Hid (PutR 24 (w7.alloc (.cells ([.int .i64 0, .int .i64 0, .slice none 0 0] : List Value).toArray 24)) V w7.heap.size 24 (stC d a7 d.logs.length c7)) := put_row (Blk.new w7 24 [.int .i64 0, .int .i64 0, .slice none 0 0]) rfl sizeSt (stC_one _ _ _ _)
  have hst := below_grown ((Below.refl _ w7).alloc (Nat.le_refl _) _) hP.out.grown (by simp) (Nat.le_refl _)
  have hBs' := Lib.hid (hBs.out.below hst hBs.out.lt)
  have hSs' := Lib.hid (hSs.out.below hst)
  clear hBs hSs
  have hBs := hBs'; have hSs := hSs'
  clear hBs' hSs'
  have hBx' := Lib.hid (hBx.out.below hst hBx.out.lt)
  have hSx' := Lib.hid (hSx.out.below hst)
  clear hBx hSx
  have hBx := hBx'; have hSx := hSx'
  clear hBx' hSx'
  have hBy' := Lib.hid (hBy.out.below hst hBy.out.lt)
  have hSy' := Lib.hid (hSy.out.below hst)
  clear hBy hSy
  have hBy := hBy'; have hSy := hSy'
  clear hBy' hSy'
  have hEl' := Lib.hid (hEl.out.below hst)
  clear hEl
  have hEl := hEl'
  clear hEl'
  have hbw' := Lib.hid (hbw.out.trans (hst.mono hbw.out.size))
  clear hbw
  have hbw := hbw'
  clear hbw'
  have hSd' := Lib.hid (hSd.out.below hst); clear hSd; have hSd := hSd'; clear hSd'
  clear hst
  have hBd := Lib.hid hP.out.blk
  have l0 := hBd.out.at_ (i := 0) rfl
  have l1 := hBd.out.at_ (i := 1) rfl
  have l2 := hBd.out.at_ (i := 2) rfl
  go_wp2_with (first
    | (refine wpList_store_mid (by rfl) 24 (.tmp 16) (.tmp 70) (by rfl) w7.heap.size 0 (stC d a7 d.logs.length c7).toArray (by rfl) (by rfl) hP.out.there hP.out.info (by simpa using hP.out.one) ?_
       generalize hWq : World.setCells _ _ _ _ = Wa
       obtain rfl : v7 = Wa := by rw [← hWq]; exact hP.out.eq
       clear hWq))
  clear l0 l1 l2
  clear hP
  refine (put_ok (hEx.put4) (show I64 3 from ⟨by decide, by decide⟩) ⟨by decide, by decide⟩ (HT'.out.below (hbw.out.alloc hbw.out.size _)) (hSd.out.below ((Below.refl _ v7).alloc (Nat.le_refl _) _)) (bs97 v7)).mono ?_
  rintro e w8 ⟨a8, c8, rfl, hS, hb⟩
  have hb' : Below v7.heap.size v7 w8 := ((Below.refl _ v7).alloc (Nat.le_refl _) _).trans (hb.mono (by simp))
  have hBs' := Lib.hid (hBs.out.below hb' hBs.out.lt)
  have hSs' := Lib.hid (hSs.out.below hb')
  clear hBs hSs
  have hBs := hBs'; have hSs := hSs'
  clear hBs' hSs'
  have hBx' := Lib.hid (hBx.out.below hb' hBx.out.lt)
  have hSx' := Lib.hid (hSx.out.below hb')
  clear hBx hSx
  have hBx := hBx'; have hSx := hSx'
  clear hBx' hSx'
  have hBy' := Lib.hid (hBy.out.below hb' hBy.out.lt)
  have hSy' := Lib.hid (hSy.out.below hb')
  clear hBy hSy
  have hBy := hBy'; have hSy := hSy'
  clear hBy' hSy'
  have hEl' := Lib.hid (hEl.out.below hb')
  clear hEl
  have hEl := hEl'
  clear hEl'
  have hBd' := Lib.hid (hBd.out.below hb' hBd.out.lt)
  have hSd' := Lib.hid (hSd.out.below hb')
  clear hBd hSd
  have hBd := hBd'; have hSd := hSd'
  clear hBd' hSd'
  have hbw' := Lib.hid (hbw.out.trans (hb'.mono hbw.out.size))
  clear hbw
  have hbw := hbw'
  clear hbw'
  clear hb hb'
  have hSz : Hid (SV (fun _ => True) w8 a8 d.logs.length c8 d) := hS.imp fun _ _ _ => trivial
  clear hS
  obtain ⟨v8, hP⟩ : ∃ V, Hid (PutR 24 (w8.alloc (.cells ([.int .i64 0, .int .i64 0, .slice none 0 0] : List Value).toArray 24)) V w8.heap.size 24 (stC d a8 d.logs.length c8)) := put_row (Blk.new w8 24 [.int .i64 0, .int .i64 0, .slice none 0 0]) rfl sizeSt (stC_one _ _ _ _)
  have hst := below_grown ((Below.refl _ w8).alloc (Nat.le_refl _) _) hP.out.grown (by simp) (Nat.le_refl _)
  have hBs' := Lib.hid (hBs.out.below hst hBs.out.lt)
  have hSs' := Lib.hid (hSs.out.below hst)
  clear hBs hSs
  have hBs := hBs'; have hSs := hSs'
  clear hBs' hSs'
  have hBx' := Lib.hid (hBx.out.below hst hBx.out.lt)
  have hSx' := Lib.hid (hSx.out.below hst)
  clear hBx hSx
  have hBx := hBx'; have hSx := hSx'
  clear hBx' hSx'
  have hBy' := Lib.hid (hBy.out.below hst hBy.out.lt)
  have hSy' := Lib.hid (hSy.out.below hst)
  clear hBy hSy
  have hBy := hBy'; have hSy := hSy'
  clear hBy' hSy'
  have hEl' := Lib.hid (hEl.out.below hst)
  clear hEl
  have hEl := hEl'
  clear hEl'
  have hBd' := Lib.hid (hBd.out.below hst hBd.out.lt)
  have hSd' := Lib.hid (hSd.out.below hst)
  clear hBd hSd
  have hBd := hBd'; have hSd := hSd'
  clear hBd' hSd'
  have hbw' := Lib.hid (hbw.out.trans (hst.mono hbw.out.size))
  clear hbw
  have hbw := hbw'
  clear hbw'
  have hSz' := Lib.hid (hSz.out.below hst); clear hSz; have hSz := hSz'; clear hSz'
  clear hst
  have hBz := Lib.hid hP.out.blk
  have l0 := hBx.out.at_ (i := 0) rfl
  have l1 := hBx.out.at_ (i := 1) rfl
  have l2 := hBx.out.at_ (i := 2) rfl
  go_wp2_with (first
    | (refine wpList_store_mid (by rfl) 24 (.tmp 18) (.tmp 77) (by rfl) w8.heap.size 0 (stC d a8 d.logs.length c8).toArray (by rfl) (by rfl) hP.out.there hP.out.info (by simpa using hP.out.one) ?_
       generalize hWq : World.setCells _ _ _ _ = Wa
       obtain rfl : v8 = Wa := by rw [← hWq]; exact hP.out.eq
       clear hWq))
  clear l0 l1 l2
  clear hP
  refine (hsg1.out _ a3 c3 a6 c6 (HT'.out.below hbw.out) hSx.out hEl.out).mono ?_
  rintro e w9 ⟨rfl, hb⟩
  have hBs' := Lib.hid (hBs.out.below hb hBs.out.lt)
  have hSs' := Lib.hid (hSs.out.below hb)
  clear hBs hSs
  have hBs := hBs'; have hSs := hSs'
  clear hBs' hSs'
  have hBx' := Lib.hid (hBx.out.below hb hBx.out.lt)
  have hSx' := Lib.hid (hSx.out.below hb)
  clear hBx hSx
  have hBx := hBx'; have hSx := hSx'
  clear hBx' hSx'
  have hBy' := Lib.hid (hBy.out.below hb hBy.out.lt)
  have hSy' := Lib.hid (hSy.out.below hb)
  clear hBy hSy
  have hBy := hBy'; have hSy := hSy'
  clear hBy' hSy'
  have hEl' := Lib.hid (hEl.out.below hb)
  clear hEl
  have hEl := hEl'
  clear hEl'
  have hBd' := Lib.hid (hBd.out.below hb hBd.out.lt)
  have hSd' := Lib.hid (hSd.out.below hb)
  clear hBd hSd
  have hBd := hBd'; have hSd := hSd'
  clear hBd' hSd'
  have hBz' := Lib.hid (hBz.out.below hb hBz.out.lt)
  have hSz' := Lib.hid (hSz.out.below hb)
  clear hBz hSz
  have hBz := hBz'; have hSz := hSz'
  clear hBz' hSz'
  have hbw' := Lib.hid (hbw.out.trans (hb.mono hbw.out.size))
  clear hbw
  have hbw := hbw'
  clear hbw'
  clear hb
  obtain ⟨v9, hP⟩ : ∃ V, Hid (PutR 47 (w9.alloc (.cells zeroHd.toArray 47)) V w9.heap.size 47 r1) := put_row (Blk.new w9 47 zeroHd) (by rw [hr1.len]; rfl) (by rw [hr1.len]; exact sizeH) hr1.one
  have hst := below_grown ((Below.refl _ w9).alloc (Nat.le_refl _) _) hP.out.grown (by simp) (Nat.le_refl _)
  have hBs' := Lib.hid (hBs.out.below hst hBs.out.lt)
  have hSs' := Lib.hid (hSs.out.below hst)
  clear hBs hSs
  have hBs := hBs'; have hSs := hSs'
  clear hBs' hSs'
  have hBx' := Lib.hid (hBx.out.below hst hBx.out.lt)
  have hSx' := Lib.hid (hSx.out.below hst)
  clear hBx hSx
  have hBx := hBx'; have hSx := hSx'
  clear hBx' hSx'
  have hBy' := Lib.hid (hBy.out.below hst hBy.out.lt)
  have hSy' := Lib.hid (hSy.out.below hst)
  clear hBy hSy
  have hBy := hBy'; have hSy := hSy'
  clear hBy' hSy'
  have hEl' := Lib.hid (hEl.out.below hst)
  clear hEl
  have hEl := hEl'
  clear hEl'
  have hBd' := Lib.hid (hBd.out.below hst hBd.out.lt)
  have hSd' := Lib.hid (hSd.out.below hst)
  clear hBd hSd
  have hBd := hBd'; have hSd := hSd'
  clear hBd' hSd'
  have hBz' := Lib.hid (hBz.out.below hst hBz.out.lt)
  have hSz' := Lib.hid (hSz.out.below hst)
  clear hBz hSz
  have hBz := hBz'; have hSz := hSz'
  clear hBz' hSz'
  have hbw' := Lib.hid (hbw.out.trans (hst.mono hbw.out.size))
  clear hbw
  have hbw := hbw'
  clear hbw'
  clear hst
  have hBh := Lib.hid hP.out.blk
  have l0 := hBs.out.at_ (i := 0) rfl
  have l1 := hBs.out.at_ (i := 1) rfl
  have l2 := hBs.out.at_ (i := 2) rfl
  go_wp2_with (first
    | (refine wpList_store_mid (by rfl) 47 (.tmp 21) (.tmp 84) (by rfl) w9.heap.size 0 (r1).toArray (by rfl) (by rfl) hP.out.there hP.out.info (by simpa using hP.out.one) ?_
       generalize hWq : World.setCells _ _ _ _ = Wa
       obtain rfl : v9 = Wa := by rw [← hWq]; exact hP.out.eq
       clear hWq))
  clear l0 l1 l2
  clear hP
  refine (hsg2.out _ (HT'.out.below hbw.out) hSs.out).mono ?_
  rintro e w10 ⟨rfl, hb⟩
  have hBs' := Lib.hid (hBs.out.below hb hBs.out.lt)
  have hSs' := Lib.hid (hSs.out.below hb)
  clear hBs hSs
  have hBs := hBs'; have hSs := hSs'
  clear hBs' hSs'
  have hBx' := Lib.hid (hBx.out.below hb hBx.out.lt)
  have hSx' := Lib.hid (hSx.out.below hb)
  clear hBx hSx
  have hBx := hBx'; have hSx := hSx'
  clear hBx' hSx'
  have hBy' := Lib.hid (hBy.out.below hb hBy.out.lt)
  have hSy' := Lib.hid (hSy.out.below hb)
  clear hBy hSy
  have hBy := hBy'; have hSy := hSy'
  clear hBy' hSy'
  have hEl' := Lib.hid (hEl.out.below hb)
  clear hEl
  have hEl := hEl'
  clear hEl'
  have hBd' := Lib.hid (hBd.out.below hb hBd.out.lt)
  have hSd' := Lib.hid (hSd.out.below hb)
  clear hBd hSd
  have hBd := hBd'; have hSd := hSd'
  clear hBd' hSd'
  have hBz' := Lib.hid (hBz.out.below hb hBz.out.lt)
  have hSz' := Lib.hid (hSz.out.below hb)
  clear hBz hSz
  have hBz := hBz'; have hSz := hSz'
  clear hBz' hSz'
  have hBh' := Lib.hid (hBh.out.below hb hBh.out.lt)
  clear hBh
  have hBh := hBh'
  clear hBh'
  have hbw' := Lib.hid (hbw.out.trans (hb.mono hbw.out.size))
  clear hbw
  have hbw := hbw'
  clear hbw'
  clear hb
  obtain ⟨v10, hP⟩ : ∃ V, Hid (PutR 47 (w10.alloc (.cells zeroHd.toArray 47)) V w10.heap.size 47 r2) := put_row (Blk.new w10 47 zeroHd) (by rw [hr2.len]; rfl) (by rw [hr2.len]; exact sizeH) hr2.one
  have hst := below_grown ((Below.refl _ w10).alloc (Nat.le_refl _) _) hP.out.grown (by simp) (Nat.le_refl _)
  have hBs' := Lib.hid (hBs.out.below hst hBs.out.lt)
  have hSs' := Lib.hid (hSs.out.below hst)
  clear hBs hSs
  have hBs := hBs'; have hSs := hSs'
  clear hBs' hSs'
  have hBx' := Lib.hid (hBx.out.below hst hBx.out.lt)
  have hSx' := Lib.hid (hSx.out.below hst)
  clear hBx hSx
  have hBx := hBx'; have hSx := hSx'
  clear hBx' hSx'
  have hBy' := Lib.hid (hBy.out.below hst hBy.out.lt)
  have hSy' := Lib.hid (hSy.out.below hst)
  clear hBy hSy
  have hBy := hBy'; have hSy := hSy'
  clear hBy' hSy'
  have hEl' := Lib.hid (hEl.out.below hst)
  clear hEl
  have hEl := hEl'
  clear hEl'
  have hBd' := Lib.hid (hBd.out.below hst hBd.out.lt)
  have hSd' := Lib.hid (hSd.out.below hst)
  clear hBd hSd
  have hBd := hBd'; have hSd := hSd'
  clear hBd' hSd'
  have hBz' := Lib.hid (hBz.out.below hst hBz.out.lt)
  have hSz' := Lib.hid (hSz.out.below hst)
  clear hBz hSz
  have hBz := hBz'; have hSz := hSz'
  clear hBz' hSz'
  have hBh' := Lib.hid (hBh.out.below hst hBh.out.lt)
  clear hBh
  have hBh := hBh'
  clear hBh'
  have hbw' := Lib.hid (hbw.out.trans (hst.mono hbw.out.size))
  clear hbw
  have hbw := hbw'
  clear hbw'
  clear hst
  have hBg := Lib.hid hP.out.blk
  go_wp2_with (first
    | (refine wpList_store_mid (by rfl) 47 (.tmp 23) (.tmp 89) (by rfl) w10.heap.size 0 (r2).toArray (by rfl) (by rfl) hP.out.there hP.out.info (by simpa using hP.out.one) ?_
       generalize hWq : World.setCells _ _ _ _ = Wa
       obtain rfl : v10 = Wa := by rw [← hWq]; exact hP.out.eq
       clear hWq))
  clear hP
  refine (hpub.out _).mono ?_
  rintro e w11 ⟨rfl, hb⟩
  have hBs' := Lib.hid (hBs.out.below hb hBs.out.lt)
  have hSs' := Lib.hid (hSs.out.below hb)
  clear hBs hSs
  have hBs := hBs'; have hSs := hSs'
  clear hBs' hSs'
  have hBx' := Lib.hid (hBx.out.below hb hBx.out.lt)
  have hSx' := Lib.hid (hSx.out.below hb)
  clear hBx hSx
  have hBx := hBx'; have hSx := hSx'
  clear hBx' hSx'
  have hBy' := Lib.hid (hBy.out.below hb hBy.out.lt)
  have hSy' := Lib.hid (hSy.out.below hb)
  clear hBy hSy
  have hBy := hBy'; have hSy := hSy'
  clear hBy' hSy'
  have hEl' := Lib.hid (hEl.out.below hb)
  clear hEl
  have hEl := hEl'
  clear hEl'
  have hBd' := Lib.hid (hBd.out.below hb hBd.out.lt)
  have hSd' := Lib.hid (hSd.out.below hb)
  clear hBd hSd
  have hBd := hBd'; have hSd := hSd'
  clear hBd' hSd'
  have hBz' := Lib.hid (hBz.out.below hb hBz.out.lt)
  have hSz' := Lib.hid (hSz.out.below hb)
  clear hBz hSz
  have hBz := hBz'; have hSz := hSz'
  clear hBz' hSz'
  have hBh' := Lib.hid (hBh.out.below hb hBh.out.lt)
  clear hBh
  have hBh := hBh'
  clear hBh'
  have hBg' := Lib.hid (hBg.out.below hb hBg.out.lt)
  clear hBg
  have hBg := hBg'
  clear hBg'
  have hbw' := Lib.hid (hbw.out.trans (hb.mono hbw.out.size))
  clear hbw
  have hbw := hbw'
  clear hbw'
  clear hb
  have l0 := hBs.out.at_ (i := 0) rfl
  have l1 := hBs.out.at_ (i := 1) rfl
  have l2 := hBs.out.at_ (i := 2) rfl
  go_wp2_with fail
  clear l0 l1 l2
  refine (fet0_ok hEx.fet2 ⟨by decide, by decide⟩ (HT'.out.below hbw.out) hSs.out).mono ?_
  rintro e w12 ⟨a12, c12, rfl, hb⟩
  have hBs' := Lib.hid (hBs.out.below hb hBs.out.lt)
  have hSs' := Lib.hid (hSs.out.below hb)
  clear hBs hSs
  have hBs := hBs'; have hSs := hSs'
  clear hBs' hSs'
  have hBx' := Lib.hid (hBx.out.below hb hBx.out.lt)
  have hSx' := Lib.hid (hSx.out.below hb)
  clear hBx hSx
  have hBx := hBx'; have hSx := hSx'
  clear hBx' hSx'
  have hBy' := Lib.hid (hBy.out.below hb hBy.out.lt)
  have hSy' := Lib.hid (hSy.out.below hb)
  clear hBy hSy
  have hBy := hBy'; have hSy := hSy'
  clear hBy' hSy'
  have hEl' := Lib.hid (hEl.out.below hb)
  clear hEl
  have hEl := hEl'
  clear hEl'
  have hBd' := Lib.hid (hBd.out.below hb hBd.out.lt)
  have hSd' := Lib.hid (hSd.out.below hb)
  clear hBd hSd
  have hBd := hBd'; have hSd := hSd'
  clear hBd' hSd'
  have hBz' := Lib.hid (hBz.out.below hb hBz.out.lt)
  have hSz' := Lib.hid (hSz.out.below hb)
  clear hBz hSz
  have hBz := hBz'; have hSz := hSz'
  clear hBz' hSz'
  have hBh' := Lib.hid (hBh.out.below hb hBh.out.lt)
  clear hBh
  have hBh := hBh'
  clear hBh'
  have hBg' := Lib.hid (hBg.out.below hb hBg.out.lt)
  clear hBg
  have hBg := hBg'
  clear hBg'
  have hbw' := Lib.hid (hbw.out.trans (hb.mono hbw.out.size))
  clear hbw
  have hbw := hbw'
  clear hbw'
  clear hb
  have l0 := hBs.out.at_ (i := 0) rfl
  have l1 := hBs.out.at_ (i := 1) rfl
  have l2 := hBs.out.at_ (i := 2) rfl
  go_wp2_with fail
  clear l0 l1 l2
  refine (del_ok hEx.del2 ⟨by decide, by decide⟩ ⟨by decide, by decide⟩ (HT'.out.below hbw.out) hSs.out).mono ?_
  rintro e w13 ⟨a13, c13, rfl, hS, hb⟩
  have hBs' := Lib.hid (hBs.out.below hb hBs.out.lt)
  have hSs' := Lib.hid (hSs.out.below hb)
  clear hBs hSs
  have hBs := hBs'; have hSs := hSs'
  clear hBs' hSs'
  have hBx' := Lib.hid (hBx.out.below hb hBx.out.lt)
  have hSx' := Lib.hid (hSx.out.below hb)
  clear hBx hSx
  have hBx := hBx'; have hSx := hSx'
  clear hBx' hSx'
  have hBy' := Lib.hid (hBy.out.below hb hBy.out.lt)
  have hSy' := Lib.hid (hSy.out.below hb)
  clear hBy hSy
  have hBy := hBy'; have hSy := hSy'
  clear hBy' hSy'
  have hEl' := Lib.hid (hEl.out.below hb)
  clear hEl
  have hEl := hEl'
  clear hEl'
  have hBd' := Lib.hid (hBd.out.below hb hBd.out.lt)
  have hSd' := Lib.hid (hSd.out.below hb)
  clear hBd hSd
  have hBd := hBd'; have hSd := hSd'
  clear hBd' hSd'
  have hBz' := Lib.hid (hBz.out.below hb hBz.out.lt)
  have hSz' := Lib.hid (hSz.out.below hb)
  clear hBz hSz
  have hBz := hBz'; have hSz := hSz'
  clear hBz' hSz'
  have hBh' := Lib.hid (hBh.out.below hb hBh.out.lt)
  clear hBh
  have hBh := hBh'
  clear hBh'
  have hBg' := Lib.hid (hBg.out.below hb hBg.out.lt)
  clear hBg
  have hBg := hBg'
  clear hBg'
  have hbw' := Lib.hid (hbw.out.trans (hb.mono hbw.out.size))
  clear hbw
  have hbw := hbw'
  clear hbw'
  clear hb hS
  obtain ⟨v13, hP⟩ : ∃ V, Hid (PutR 24 (w13.alloc (.cells ([.int .i64 0, .int .i64 0, .slice none 0 0] : List Value).toArray 24)) V w13.heap.size 24 (stC Sto.zeroS a13 Sto.zeroS.logs.length c13)) := put_row (Blk.new w13 24 [.int .i64 0, .int .i64 0, .slice none 0 0]) rfl (by first | exact sizeSt | (rw [hlr]; exact sizeSt)) (stC_one _ _ _ _)
  have hst := below_grown ((Below.refl _ w13).alloc (Nat.le_refl _) _) hP.out.grown (by simp) (Nat.le_refl _)
  have hBs' := Lib.hid (hBs.out.below hst hBs.out.lt)
  have hSs' := Lib.hid (hSs.out.below hst)
  clear hBs hSs
  have hBs := hBs'; have hSs := hSs'
  clear hBs' hSs'
  have hBx' := Lib.hid (hBx.out.below hst hBx.out.lt)
  have hSx' := Lib.hid (hSx.out.below hst)
  clear hBx hSx
  have hBx := hBx'; have hSx := hSx'
  clear hBx' hSx'
  have hBy' := Lib.hid (hBy.out.below hst hBy.out.lt)
  have hSy' := Lib.hid (hSy.out.below hst)
  clear hBy hSy
  have hBy := hBy'; have hSy := hSy'
  clear hBy' hSy'
  have hEl' := Lib.hid (hEl.out.below hst)
  clear hEl
  have hEl := hEl'
  clear hEl'
  have hBd' := Lib.hid (hBd.out.below hst hBd.out.lt)
  have hSd' := Lib.hid (hSd.out.below hst)
  clear hBd hSd
  have hBd := hBd'; have hSd := hSd'
  clear hBd' hSd'
  have hBz' := Lib.hid (hBz.out.below hst hBz.out.lt)
  have hSz' := Lib.hid (hSz.out.below hst)
  clear hBz hSz
  have hBz := hBz'; have hSz := hSz'
  clear hBz' hSz'
  have hBh' := Lib.hid (hBh.out.below hst hBh.out.lt)
  clear hBh
  have hBh := hBh'
  clear hBh'
  have hBg' := Lib.hid (hBg.out.below hst hBg.out.lt)
  clear hBg
  have hBg := hBg'
  clear hBg'
  have hbw' := Lib.hid (hbw.out.trans (hst.mono hbw.out.size))
  clear hbw
  have hbw := hbw'
  clear hbw'
  clear hst
  have l0 := hBx.out.at_ (i := 0) rfl
  have l1 := hBx.out.at_ (i := 1) rfl
  have l2 := hBx.out.at_ (i := 2) rfl
  have m0 := hBy.out.at_ (i := 0) rfl
  have m1 := hBy.out.at_ (i := 1) rfl
  have m2 := hBy.out.at_ (i := 2) rfl
  go_wp2_with (first
    | (refine wpList_store_mid (by rfl) 24 (.tmp 29) (.tmp 103) (by rfl) w13.heap.size 0 (stC Sto.zeroS a13 Sto.zeroS.logs.length c13).toArray (by rfl) (by rfl) hP.out.there hP.out.info (by simpa using hP.out.one) ?_
       generalize hWq : World.setCells _ _ _ _ = Wa
       obtain rfl : v13 = Wa := by rw [← hWq]; exact hP.out.eq
       clear hWq))
  clear hP l0 l1 l2 m0 m1 m2
  refine (same_any (fun _ => True) (fun _ => True) a3 a4 x.logs.length c3 c4 x _ hSx.out hSy.out).mono ?_
  rintro e w14 ⟨rfl, hb⟩
  have hBs' := Lib.hid (hBs.out.below hb hBs.out.lt)
  have hSs' := Lib.hid (hSs.out.below hb)
  clear hBs hSs
  have hBs := hBs'; have hSs := hSs'
  clear hBs' hSs'
  have hBx' := Lib.hid (hBx.out.below hb hBx.out.lt)
  have hSx' := Lib.hid (hSx.out.below hb)
  clear hBx hSx
  have hBx := hBx'; have hSx := hSx'
  clear hBx' hSx'
  have hBy' := Lib.hid (hBy.out.below hb hBy.out.lt)
  have hSy' := Lib.hid (hSy.out.below hb)
  clear hBy hSy
  have hBy := hBy'; have hSy := hSy'
  clear hBy' hSy'
  have hEl' := Lib.hid (hEl.out.below hb)
  clear hEl
  have hEl := hEl'
  clear hEl'
  have hBd' := Lib.hid (hBd.out.below hb hBd.out.lt)
  have hSd' := Lib.hid (hSd.out.below hb)
  clear hBd hSd
  have hBd := hBd'; have hSd := hSd'
  clear hBd' hSd'
  have hBz' := Lib.hid (hBz.out.below hb hBz.out.lt)
  have hSz' := Lib.hid (hSz.out.below hb)
  clear hBz hSz
  have hBz := hBz'; have hSz := hSz'
  clear hBz' hSz'
  have hBh' := Lib.hid (hBh.out.below hb hBh.out.lt)
  clear hBh
  have hBh := hBh'
  clear hBh'
  have hBg' := Lib.hid (hBg.out.below hb hBg.out.lt)
  clear hBg
  have hBg := hBg'
  clear hBg'
  have hbw' := Lib.hid (hbw.out.trans (hb.mono hbw.out.size))
  clear hbw
  have hbw := hbw'
  clear hbw'
  clear hb
  obtain ⟨b0, o0, r0, rfl, _, _, ⟨_, da, dn, dc, rfl, hbk⟩, _, hrg⟩ := hEl.out.rs.get (k := 0) (e := E) rfl
  have hq := (EntR.of hrg hEx.dig.1).data
  simp only [Nat.zero_mul, Nat.add_zero] at hq
  have hcs : (convert 33 9 (.slice da dn dc)).run Tryz.prog w14 = .ok (.string ⟨#[97]⟩) w14 := by
    have := bs_text hbk.bs
    rw [hEx.data] at this
    exact this
  clear hrg hbk
  have l0 := hBd.out.at_ (i := 0) rfl
  have l1 := hBd.out.at_ (i := 1) rfl
  have l2 := hBd.out.at_ (i := 2) rfl
  have m0 := hBz.out.at_ (i := 0) rfl
  have m1 := hBz.out.at_ (i := 1) rfl
  have m2 := hBz.out.at_ (i := 2) rfl
  go_wp2_with fail
  clear l0 l1 l2 m0 m1 m2 hq hcs
  refine (same_any (fun _ => True) (fun _ => True) a8 a7 d.logs.length c8 c7 d _ hSz.out hSd.out).mono ?_
  rintro e w15 ⟨rfl, hb⟩
  have hBs' := Lib.hid (hBs.out.below hb hBs.out.lt)
  have hSs' := Lib.hid (hSs.out.below hb)
  clear hBs hSs
  have hBs := hBs'; have hSs := hSs'
  clear hBs' hSs'
  have hBx' := Lib.hid (hBx.out.below hb hBx.out.lt)
  have hSx' := Lib.hid (hSx.out.below hb)
  clear hBx hSx
  have hBx := hBx'; have hSx := hSx'
  clear hBx' hSx'
  have hBy' := Lib.hid (hBy.out.below hb hBy.out.lt)
  have hSy' := Lib.hid (hSy.out.below hb)
  clear hBy hSy
  have hBy := hBy'; have hSy := hSy'
  clear hBy' hSy'
  have hEl' := Lib.hid (hEl.out.below hb)
  clear hEl
  have hEl := hEl'
  clear hEl'
  have hBd' := Lib.hid (hBd.out.below hb hBd.out.lt)
  have hSd' := Lib.hid (hSd.out.below hb)
  clear hBd hSd
  have hBd := hBd'; have hSd := hSd'
  clear hBd' hSd'
  have hBz' := Lib.hid (hBz.out.below hb hBz.out.lt)
  have hSz' := Lib.hid (hSz.out.below hb)
  clear hBz hSz
  have hBz := hBz'; have hSz := hSz'
  clear hBz' hSz'
  have hBh' := Lib.hid (hBh.out.below hb hBh.out.lt)
  clear hBh
  have hBh := hBh'
  clear hBh'
  have hBg' := Lib.hid (hBg.out.below hb hBg.out.lt)
  clear hBg
  have hBg := hBg'
  clear hBg'
  have hbw' := Lib.hid (hbw.out.trans (hb.mono hbw.out.size))
  clear hbw
  have hbw := hbw'
  clear hbw'
  clear hb
  go_wp2_with fail
  have hr1' := Lib.hid (show HeadR x.id 3 1 R1 S1 D1 r1 from hr1)
  have hr2' := Lib.hid (show HeadR s.id 3 0 R2 S2 D2 r2 from hr2)
  have hSn : Hid (SneW w w9.heap.size w10.heap.size r1 r2 w15) := ⟨hBh.out, hBg.out, hbw.out⟩
  clear hbw hBh hBg hBs hSs hBx hSx hBy hSy hBd hSd hBz hSz hEl hsg1 hsg2 hcv hpub hr1 hr2
  have hu := Tryz.underlying47
  have hri : Hid ((Tryz.prog.info? 47).map (·.size) = some r1.length) := by show _ = _; rw [hr1'.out.len]; exact sizeH
  have hdi : Hid ((Tryz.prog.info? 43).map (·.size) = some (bv D2).length) := by show _ = _; rw [bv_length, hc2.1]; exact size35
  have heq : ∀ W, (Op.equalIn 10000 43 (.agg (bv D2).toArray) (.agg (bv D2).toArray)).run Tryz.prog W = .ok true W := fun W => by
    have := eq_dig (x := D2) (y := D2) ⟨hc2.1, hc2.2⟩ ⟨hc2.1, hc2.2⟩ W
    rwa [decide_eq_true rfl] at this
  clear hc2
  generalize w9.heap.size = g9 at hSn ⊢
  generalize w10.heap.size = g10 at hSn ⊢
  refine wp_region_held_drew (S := fun wz => wz.cell? ⟨g9, 2, none⟩ = some (.int .i64 1) ∧ wz.rangeAt g9 0 r1 ∧ wz.cell? ⟨g10, 2, none⟩ = some (.int .i64 0) ∧ wz.rangeAt g10 3 (bv D2) ∧ SneW w g9 g10 r1 r2 wz) (by kernel_rfl) (SneW.mk' hr1'.out hr2'.out hSn.out.drew) (fun hHeld => ?_)
  refine wpAnyH_take (i := 0) (oi := { dst := some 170, op := Op.move (Operand.tmp 31), type := 4, pos := "law.go:29", after := #[], guard := none }) (v := ?_) rfl (by kernel_rfl) (by kernel_rfl) (by kernel_rfl) (fun _ _ _ h => h) (Or.inl ⟨by rfl, ?_⟩) hHeld ?_
  rotate_left
  · intro wz hSw
    (try dsimp only at hSw)
    go_simp
    all_goals (with_reducible rfl)
  try simp only [Act.put, List.setIfInBounds_toArray, List.set_cons_zero, List.set_cons_succ]
  refine wpAnyH_take (i := 1) (oi := { dst := some 171, op := Op.move (Operand.tmp 170), type := 4, pos := "law.go:29", after := #[{ on := 0, ground := Ground.data }], guard := none }) (v := ?_) rfl (by kernel_rfl) (by kernel_rfl) (by kernel_rfl) (fun _ _ _ h => h) (Or.inl ⟨by rfl, ?_⟩) hHeld ?_
  rotate_left
  · intro wz hSw
    (try dsimp only at hSw)
    go_simp
    all_goals (with_reducible rfl)
  try simp only [Act.put, List.setIfInBounds_toArray, List.set_cons_zero, List.set_cons_succ]
  refine wpAnyH_take (i := 2) (oi := { dst := some 172, op := Op.move (Operand.tmp 22), type := 27, pos := "law.go:29", after := #[{ on := 1, ground := Ground.guard }], guard := some (1, true) }) (v := ?_) rfl (by kernel_rfl) (by kernel_rfl) (by kernel_rfl) (fun _ _ _ h => h) (Or.inl ⟨by rfl, ?_⟩) hHeld ?_
  rotate_left
  · intro wz hSw
    (try dsimp only at hSw)
    go_simp
    all_goals (with_reducible rfl)
  try simp only [Act.put, List.setIfInBounds_toArray, List.set_cons_zero, List.set_cons_succ]
  refine wpAnyH_take (i := 3) (oi := { dst := some 173, op := Op.binOp BinOp.eql 27 (Operand.tmp 172) (Operand.const (Value.int IntKind.i64 0)) 27, type := 4, pos := "law.go:29", after := #[{ on := 2, ground := Ground.data }, { on := 1, ground := Ground.guard }], guard := some (1, true) }) (v := ?_) rfl (by kernel_rfl) (by kernel_rfl) (by kernel_rfl) (fun _ _ _ h => h) (Or.inl ⟨by rfl, ?_⟩) hHeld ?_
  rotate_left
  · intro wz hSw
    (try dsimp only at hSw)
    go_simp
    all_goals (with_reducible rfl)
  try simp only [Act.put, List.setIfInBounds_toArray, List.set_cons_zero, List.set_cons_succ]
  refine wpAnyH_take (i := 4) (oi := { dst := some 174, op := Op.pick (Operand.tmp 171) (Operand.tmp 173) (Operand.const (Value.bool false)), type := 4, pos := "law.go:29", after := #[{ on := 1, ground := Ground.data }, { on := 3, ground := Ground.data }], guard := none }) (v := ?_) rfl (by kernel_rfl) (by kernel_rfl) (by kernel_rfl) (fun _ _ _ h => h) (Or.inl ⟨by rfl, ?_⟩) hHeld ?_
  rotate_left
  · intro wz hSw
    (try dsimp only at hSw)
    go_simp
    all_goals (with_reducible rfl)
  try simp only [Act.put, List.setIfInBounds_toArray, List.set_cons_zero, List.set_cons_succ]
  refine wpAnyH_take (i := 5) (oi := { dst := some 175, op := Op.move (Operand.tmp 174), type := 4, pos := "law.go:29", after := #[{ on := 4, ground := Ground.data }, { on := 1, ground := Ground.chain }], guard := none }) (v := ?_) rfl (by kernel_rfl) (by kernel_rfl) (by kernel_rfl) (fun _ _ _ h => h) (Or.inl ⟨by rfl, ?_⟩) hHeld ?_
  rotate_left
  · intro wz hSw
    (try dsimp only at hSw)
    go_simp
    all_goals (with_reducible rfl)
  try simp only [Act.put, List.setIfInBounds_toArray, List.set_cons_zero, List.set_cons_succ]
  refine wpAnyH_take (i := 6) (oi := { dst := some 176, op := Op.fieldAddr 47 (Operand.tmp 21) 2, type := 0, pos := "law.go:29", after := #[{ on := 5, ground := Ground.guard }], guard := some (5, true) }) (v := ?_) rfl (by kernel_rfl) (by kernel_rfl) (by kernel_rfl) (fun _ _ _ h => h) (Or.inl ⟨by rfl, ?_⟩) hHeld ?_
  rotate_left
  · intro wz hSw
    (try dsimp only at hSw)
    go_simp
    all_goals (with_reducible rfl)
  try simp only [Act.put, List.setIfInBounds_toArray, List.set_cons_zero, List.set_cons_succ]
  refine wpAnyH_take (i := 7) (oi := { dst := some 177, op := Op.load 3 (Operand.tmp 176), type := 3, pos := "law.go:29", after := #[{ on := 6, ground := Ground.data }, { on := 5, ground := Ground.guard }], guard := some (5, true) }) (v := ?_) rfl (by kernel_rfl) (by kernel_rfl) (by kernel_rfl) (fun _ _ _ h => h) (Or.inl ⟨by rfl, ?_⟩) hHeld ?_
  rotate_left
  · intro wz hSw
    (try dsimp only at hSw)
    go_simp
    all_goals (with_reducible rfl)
  try simp only [Act.put, List.setIfInBounds_toArray, List.set_cons_zero, List.set_cons_succ]
  refine wpAnyH_take (i := 8) (oi := { dst := some 178, op := Op.binOp BinOp.eql 3 (Operand.tmp 177) (Operand.const (Value.int IntKind.i64 1)) 3, type := 4, pos := "law.go:29", after := #[{ on := 7, ground := Ground.data }, { on := 5, ground := Ground.guard }], guard := some (5, true) }) (v := ?_) rfl (by kernel_rfl) (by kernel_rfl) (by kernel_rfl) (fun _ _ _ h => h) (Or.inl ⟨by rfl, ?_⟩) hHeld ?_
  rotate_left
  · intro wz hSw
    (try dsimp only at hSw)
    go_simp
    all_goals (with_reducible rfl)
  try simp only [Act.put, List.setIfInBounds_toArray, List.set_cons_zero, List.set_cons_succ]
  refine wpAnyH_take (i := 9) (oi := { dst := some 179, op := Op.pick (Operand.tmp 175) (Operand.tmp 178) (Operand.const (Value.bool false)), type := 4, pos := "law.go:29", after := #[{ on := 5, ground := Ground.data }, { on := 8, ground := Ground.data }], guard := none }) (v := ?_) rfl (by kernel_rfl) (by kernel_rfl) (by kernel_rfl) (fun _ _ _ h => h) (Or.inl ⟨by rfl, ?_⟩) hHeld ?_
  rotate_left
  · intro wz hSw
    (try dsimp only at hSw)
    go_simp
    all_goals (with_reducible rfl)
  try simp only [Act.put, List.setIfInBounds_toArray, List.set_cons_zero, List.set_cons_succ]
  refine wpAnyH_take (i := 10) (oi := { dst := some 180, op := Op.move (Operand.tmp 179), type := 4, pos := "law.go:29", after := #[{ on := 9, ground := Ground.data }, { on := 5, ground := Ground.chain }], guard := none }) (v := ?_) rfl (by kernel_rfl) (by kernel_rfl) (by kernel_rfl) (fun _ _ _ h => h) (Or.inl ⟨by rfl, ?_⟩) hHeld ?_
  rotate_left
  · intro wz hSw
    (try dsimp only at hSw)
    go_simp
    all_goals (with_reducible rfl)
  try simp only [Act.put, List.setIfInBounds_toArray, List.set_cons_zero, List.set_cons_succ]
  refine wpAnyH_take (i := 11) (oi := { dst := some 181, op := Op.move (Operand.tmp 26), type := 27, pos := "law.go:29", after := #[{ on := 10, ground := Ground.guard }], guard := some (10, true) }) (v := ?_) rfl (by kernel_rfl) (by kernel_rfl) (by kernel_rfl) (fun _ _ _ h => h) (Or.inl ⟨by rfl, ?_⟩) hHeld ?_
  rotate_left
  · intro wz hSw
    (try dsimp only at hSw)
    go_simp
    all_goals (with_reducible rfl)
  try simp only [Act.put, List.setIfInBounds_toArray, List.set_cons_zero, List.set_cons_succ]
  refine wpAnyH_take (i := 12) (oi := { dst := some 182, op := Op.binOp BinOp.eql 27 (Operand.tmp 181) (Operand.const (Value.int IntKind.i64 0)) 27, type := 4, pos := "law.go:29", after := #[{ on := 11, ground := Ground.data }, { on := 10, ground := Ground.guard }], guard := some (10, true) }) (v := ?_) rfl (by kernel_rfl) (by kernel_rfl) (by kernel_rfl) (fun _ _ _ h => h) (Or.inl ⟨by rfl, ?_⟩) hHeld ?_
  rotate_left
  · intro wz hSw
    (try dsimp only at hSw)
    go_simp
    all_goals (with_reducible rfl)
  try simp only [Act.put, List.setIfInBounds_toArray, List.set_cons_zero, List.set_cons_succ]
  refine wpAnyH_take (i := 13) (oi := { dst := some 183, op := Op.pick (Operand.tmp 180) (Operand.tmp 182) (Operand.const (Value.bool false)), type := 4, pos := "law.go:29", after := #[{ on := 10, ground := Ground.data }, { on := 12, ground := Ground.data }], guard := none }) (v := ?_) rfl (by kernel_rfl) (by kernel_rfl) (by kernel_rfl) (fun _ _ _ h => h) (Or.inl ⟨by rfl, ?_⟩) hHeld ?_
  rotate_left
  · intro wz hSw
    (try dsimp only at hSw)
    go_simp
    all_goals (with_reducible rfl)
  try simp only [Act.put, List.setIfInBounds_toArray, List.set_cons_zero, List.set_cons_succ]
  refine wpAnyH_take (i := 14) (oi := { dst := some 184, op := Op.move (Operand.tmp 183), type := 4, pos := "law.go:29", after := #[{ on := 13, ground := Ground.data }, { on := 10, ground := Ground.chain }], guard := none }) (v := ?_) rfl (by kernel_rfl) (by kernel_rfl) (by kernel_rfl) (fun _ _ _ h => h) (Or.inl ⟨by rfl, ?_⟩) hHeld ?_
  rotate_left
  · intro wz hSw
    (try dsimp only at hSw)
    go_simp
    all_goals (with_reducible rfl)
  try simp only [Act.put, List.setIfInBounds_toArray, List.set_cons_zero, List.set_cons_succ]
  refine wpAnyH_take (i := 15) (oi := { dst := some 185, op := Op.move (Operand.tmp 25), type := 3, pos := "law.go:29", after := #[{ on := 14, ground := Ground.guard }], guard := some (14, true) }) (v := ?_) rfl (by kernel_rfl) (by kernel_rfl) (by kernel_rfl) (fun _ _ _ h => h) (Or.inl ⟨by rfl, ?_⟩) hHeld ?_
  rotate_left
  · intro wz hSw
    (try dsimp only at hSw)
    go_simp
    all_goals (with_reducible rfl)
  try simp only [Act.put, List.setIfInBounds_toArray, List.set_cons_zero, List.set_cons_succ]
  refine wpAnyH_take (i := 16) (oi := { dst := some 186, op := Op.load 47 (Operand.tmp 21), type := 47, pos := "law.go:29", after := #[{ on := 14, ground := Ground.guard }], guard := some (14, true) }) rfl (by kernel_rfl) (by kernel_rfl) (by kernel_rfl) (fun _ _ _ h => h) (yieldsIf_load_mid (by rfl) _ _ rfl g9 0 rfl r1 _ (fun _ h => h.2.1) hu rfl hri.out) hHeld ?_
  try simp only [Act.put, List.setIfInBounds_toArray, List.set_cons_zero, List.set_cons_succ]
  refine wpAnyH_ready (rs := [17]) (by kernel_rfl) (by simp) ?_
  refine AllReadyH.cons (o := { dst := some 187, op := Op.call { callee := Callee.value (Operand.func 27), args := #[Operand.tmp 185, Operand.tmp 186], argTypes := #[3, 47] }, type := 4, pos := "law.go:29", after := #[{ on := 15, ground := Ground.data }, { on := 16, ground := Ground.data }, { on := 14, ground := Ground.chain }, { on := 14, ground := Ground.guard }], guard := some (14, true) }) rfl (fun K hK => ?_) AllReadyH.nil
  rw [if_pos (by rfl)]
  show Oper.wp _ _ _ _ K _
  go_simp
  go_at_call 27
  refine (hver'.out _ (HT'.out.below hHeld.2.2.2.2.2.2)).mono ?_
  rintro e w16 ⟨rfl, hb⟩
  refine hK.out _ _ (SneW.next hr1'.out hr2'.out hHeld hb) (fun hHeld => ?_)
  clear hK K
  try simp only [Act.put, List.setIfInBounds_toArray, List.set_cons_zero, List.set_cons_succ]
  refine wpAnyH_take (i := 18) (oi := { dst := some 188, op := Op.pick (Operand.tmp 184) (Operand.tmp 187) (Operand.const (Value.bool false)), type := 4, pos := "law.go:29", after := #[{ on := 14, ground := Ground.data }, { on := 17, ground := Ground.data }], guard := none }) (v := ?_) rfl (by kernel_rfl) (by kernel_rfl) (by kernel_rfl) (fun _ _ _ h => h) (Or.inl ⟨by rfl, ?_⟩) hHeld ?_
  rotate_left
  · intro wz hSw
    (try dsimp only at hSw)
    go_simp
    all_goals (with_reducible rfl)
  try simp only [Act.put, List.setIfInBounds_toArray, List.set_cons_zero, List.set_cons_succ]
  refine wpAnyH_take (i := 19) (oi := { dst := some 189, op := Op.move (Operand.tmp 188), type := 4, pos := "law.go:29", after := #[{ on := 18, ground := Ground.data }, { on := 17, ground := Ground.chain }], guard := none }) (v := ?_) rfl (by kernel_rfl) (by kernel_rfl) (by kernel_rfl) (fun _ _ _ h => h) (Or.inl ⟨by rfl, ?_⟩) hHeld ?_
  rotate_left
  · intro wz hSw
    (try dsimp only at hSw)
    go_simp
    all_goals (with_reducible rfl)
  try simp only [Act.put, List.setIfInBounds_toArray, List.set_cons_zero, List.set_cons_succ]
  refine wpAnyH_take (i := 20) (oi := { dst := some 190, op := Op.move (Operand.tmp 24), type := 27, pos := "law.go:29", after := #[{ on := 19, ground := Ground.guard }], guard := some (19, true) }) (v := ?_) rfl (by kernel_rfl) (by kernel_rfl) (by kernel_rfl) (fun _ _ _ h => h) (Or.inl ⟨by rfl, ?_⟩) hHeld ?_
  rotate_left
  · intro wz hSw
    (try dsimp only at hSw)
    go_simp
    all_goals (with_reducible rfl)
  try simp only [Act.put, List.setIfInBounds_toArray, List.set_cons_zero, List.set_cons_succ]
  refine wpAnyH_take (i := 21) (oi := { dst := some 191, op := Op.binOp BinOp.eql 27 (Operand.tmp 190) (Operand.const (Value.int IntKind.i64 0)) 27, type := 4, pos := "law.go:29", after := #[{ on := 20, ground := Ground.data }, { on := 19, ground := Ground.guard }], guard := some (19, true) }) (v := ?_) rfl (by kernel_rfl) (by kernel_rfl) (by kernel_rfl) (fun _ _ _ h => h) (Or.inl ⟨by rfl, ?_⟩) hHeld ?_
  rotate_left
  · intro wz hSw
    (try dsimp only at hSw)
    go_simp
    all_goals (with_reducible rfl)
  try simp only [Act.put, List.setIfInBounds_toArray, List.set_cons_zero, List.set_cons_succ]
  refine wpAnyH_take (i := 22) (oi := { dst := some 192, op := Op.pick (Operand.tmp 189) (Operand.tmp 191) (Operand.const (Value.bool false)), type := 4, pos := "law.go:29", after := #[{ on := 19, ground := Ground.data }, { on := 21, ground := Ground.data }], guard := none }) (v := ?_) rfl (by kernel_rfl) (by kernel_rfl) (by kernel_rfl) (fun _ _ _ h => h) (Or.inl ⟨by rfl, ?_⟩) hHeld ?_
  rotate_left
  · intro wz hSw
    (try dsimp only at hSw)
    go_simp
    all_goals (with_reducible rfl)
  try simp only [Act.put, List.setIfInBounds_toArray, List.set_cons_zero, List.set_cons_succ]
  refine wpAnyH_take (i := 23) (oi := { dst := some 193, op := Op.move (Operand.tmp 192), type := 4, pos := "law.go:29", after := #[{ on := 22, ground := Ground.data }, { on := 19, ground := Ground.chain }], guard := none }) (v := ?_) rfl (by kernel_rfl) (by kernel_rfl) (by kernel_rfl) (fun _ _ _ h => h) (Or.inl ⟨by rfl, ?_⟩) hHeld ?_
  rotate_left
  · intro wz hSw
    (try dsimp only at hSw)
    go_simp
    all_goals (with_reducible rfl)
  try simp only [Act.put, List.setIfInBounds_toArray, List.set_cons_zero, List.set_cons_succ]
  refine wpAnyH_take (i := 24) (oi := { dst := some 194, op := Op.fieldAddr 47 (Operand.tmp 23) 2, type := 0, pos := "law.go:29", after := #[{ on := 23, ground := Ground.guard }], guard := some (23, true) }) (v := ?_) rfl (by kernel_rfl) (by kernel_rfl) (by kernel_rfl) (fun _ _ _ h => h) (Or.inl ⟨by rfl, ?_⟩) hHeld ?_
  rotate_left
  · intro wz hSw
    (try dsimp only at hSw)
    go_simp
    all_goals (with_reducible rfl)
  try simp only [Act.put, List.setIfInBounds_toArray, List.set_cons_zero, List.set_cons_succ]
  refine wpAnyH_take (i := 25) (oi := { dst := some 195, op := Op.load 3 (Operand.tmp 194), type := 3, pos := "law.go:29", after := #[{ on := 24, ground := Ground.data }, { on := 23, ground := Ground.guard }], guard := some (23, true) }) (v := ?_) rfl (by kernel_rfl) (by kernel_rfl) (by kernel_rfl) (fun _ _ _ h => h) (Or.inl ⟨by rfl, ?_⟩) hHeld ?_
  rotate_left
  · intro wz hSw
    (try dsimp only at hSw)
    go_simp
    all_goals (with_reducible rfl)
  try simp only [Act.put, List.setIfInBounds_toArray, List.set_cons_zero, List.set_cons_succ]
  refine wpAnyH_take (i := 26) (oi := { dst := some 196, op := Op.binOp BinOp.eql 3 (Operand.tmp 195) (Operand.const (Value.int IntKind.i64 0)) 3, type := 4, pos := "law.go:29", after := #[{ on := 25, ground := Ground.data }, { on := 23, ground := Ground.guard }], guard := some (23, true) }) (v := ?_) rfl (by kernel_rfl) (by kernel_rfl) (by kernel_rfl) (fun _ _ _ h => h) (Or.inl ⟨by rfl, ?_⟩) hHeld ?_
  rotate_left
  · intro wz hSw
    (try dsimp only at hSw)
    go_simp
    all_goals (with_reducible rfl)
  try simp only [Act.put, List.setIfInBounds_toArray, List.set_cons_zero, List.set_cons_succ]
  refine wpAnyH_take (i := 27) (oi := { dst := some 197, op := Op.pick (Operand.tmp 193) (Operand.tmp 196) (Operand.const (Value.bool false)), type := 4, pos := "law.go:29", after := #[{ on := 23, ground := Ground.data }, { on := 26, ground := Ground.data }], guard := none }) (v := ?_) rfl (by kernel_rfl) (by kernel_rfl) (by kernel_rfl) (fun _ _ _ h => h) (Or.inl ⟨by rfl, ?_⟩) hHeld ?_
  rotate_left
  · intro wz hSw
    (try dsimp only at hSw)
    go_simp
    all_goals (with_reducible rfl)
  try simp only [Act.put, List.setIfInBounds_toArray, List.set_cons_zero, List.set_cons_succ]
  refine wpAnyH_take (i := 28) (oi := { dst := some 198, op := Op.move (Operand.tmp 197), type := 4, pos := "law.go:29", after := #[{ on := 27, ground := Ground.data }, { on := 23, ground := Ground.chain }], guard := none }) (v := ?_) rfl (by kernel_rfl) (by kernel_rfl) (by kernel_rfl) (fun _ _ _ h => h) (Or.inl ⟨by rfl, ?_⟩) hHeld ?_
  rotate_left
  · intro wz hSw
    (try dsimp only at hSw)
    go_simp
    all_goals (with_reducible rfl)
  try simp only [Act.put, List.setIfInBounds_toArray, List.set_cons_zero, List.set_cons_succ]
  refine wpAnyH_take (i := 29) (oi := { dst := some 199, op := Op.fieldAddr 47 (Operand.tmp 23) 3, type := 0, pos := "law.go:29", after := #[{ on := 28, ground := Ground.guard }], guard := some (28, true) }) (v := ?_) rfl (by kernel_rfl) (by kernel_rfl) (by kernel_rfl) (fun _ _ _ h => h) (Or.inl ⟨by rfl, ?_⟩) hHeld ?_
  rotate_left
  · intro wz hSw
    (try dsimp only at hSw)
    go_simp
    all_goals (with_reducible rfl)
  try simp only [Act.put, List.setIfInBounds_toArray, List.set_cons_zero, List.set_cons_succ]
  refine wpAnyH_take (i := 30) (oi := { dst := some 200, op := Op.load 43 (Operand.tmp 199), type := 43, pos := "law.go:29", after := #[{ on := 29, ground := Ground.data }, { on := 28, ground := Ground.guard }], guard := some (28, true) }) rfl (by kernel_rfl) (by kernel_rfl) (by kernel_rfl) (fun _ _ _ h => h) (yieldsIf_load_mid (by rfl) _ _ rfl g10 3 rfl (bv D2) _ (fun _ h => h.2.2.2.1) Tryz.underlying43 rfl hdi.out) hHeld ?_
  try simp only [Act.put, List.setIfInBounds_toArray, List.set_cons_zero, List.set_cons_succ]
  refine wpAnyH_ready (rs := [31]) (by kernel_rfl) (by simp) ?_
  refine AllReadyH.cons (o := { dst := some 201, op := Op.buildSlice 33 1 #[(0, Operand.const (Value.int IntKind.u8 3))], type := 33, pos := "law.go:29", after := #[{ on := 28, ground := Ground.guard }], guard := some (28, true) }) rfl (fun K hK => ?_) AllReadyH.nil
  rw [if_pos (by rfl)]
  show Oper.wp _ _ _ _ K _
  go_simp
  have hone := Blk.new w16 5 [.int .u8 3]
  refine hK.out _ _ (SneW.next hr1'.out hr2'.out hHeld ((Below.refl _ _).alloc (Nat.le_refl _) _)) (fun hHeld => ?_)
  clear hK K
  try simp only [Act.put, List.setIfInBounds_toArray, List.set_cons_zero, List.set_cons_succ]
  refine wpAnyH_ready (rs := [32]) (by kernel_rfl) (by simp) ?_
  refine AllReadyH.cons (o := { dst := some 202, op := Op.call { callee := Callee.value (Operand.func 47), args := #[Operand.const (Value.string { data := #[108, 111, 103] }), Operand.tmp 201], argTypes := #[9, 33] }, type := 43, pos := "law.go:29", after := #[{ on := 31, ground := Ground.data }, { on := 28, ground := Ground.chain }, { on := 28, ground := Ground.guard }], guard := some (28, true) }) rfl (fun K hK => ?_) AllReadyH.nil
  rw [if_pos (by rfl)]
  show Oper.wp _ _ _ _ K _
  go_simp
  go_at_call 47
  refine (htag.out _ _ (HT'.out.below hHeld.2.2.2.2.2.2) hone).mono ?_
  rintro e w17 ⟨rfl, hb17⟩
  refine hK.out _ _ (SneW.next hr1'.out hr2'.out hHeld hb17) (fun hHeld => ?_)
  clear hK K
  try simp only [Act.put, List.setIfInBounds_toArray, List.set_cons_zero, List.set_cons_succ]
  refine wpAnyH_take (i := 33) (oi := { dst := some 203, op := Op.binOp BinOp.eql 43 (Operand.tmp 200) (Operand.tmp 202) 43, type := 4, pos := "law.go:29", after := #[{ on := 30, ground := Ground.data }, { on := 32, ground := Ground.data }, { on := 28, ground := Ground.guard }], guard := some (28, true) }) (v := ?_) rfl (by kernel_rfl) (by kernel_rfl) (by kernel_rfl) (fun _ _ _ h => h) (Or.inl ⟨by rfl, ?_⟩) hHeld ?_
  rotate_left
  · intro wz hSw
    (try dsimp only at hSw)
    go_simp
    all_goals (with_reducible rfl)
  try simp only [Act.put, List.setIfInBounds_toArray, List.set_cons_zero, List.set_cons_succ]
  refine wpAnyH_take (i := 34) (oi := { dst := some 204, op := Op.pick (Operand.tmp 198) (Operand.tmp 203) (Operand.const (Value.bool false)), type := 4, pos := "law.go:29", after := #[{ on := 28, ground := Ground.data }, { on := 33, ground := Ground.data }], guard := none }) (v := ?_) rfl (by kernel_rfl) (by kernel_rfl) (by kernel_rfl) (fun _ _ _ h => h) (Or.inl ⟨by rfl, ?_⟩) hHeld ?_
  rotate_left
  · intro wz hSw
    (try dsimp only at hSw)
    go_simp
    all_goals (with_reducible rfl)
  try simp only [Act.put, List.setIfInBounds_toArray, List.set_cons_zero, List.set_cons_succ]
  refine wpAnyH_take (i := 35) (oi := { dst := some 205, op := Op.move (Operand.tmp 204), type := 4, pos := "law.go:29", after := #[{ on := 34, ground := Ground.data }, { on := 32, ground := Ground.chain }], guard := none }) (v := ?_) rfl (by kernel_rfl) (by kernel_rfl) (by kernel_rfl) (fun _ _ _ h => h) (Or.inl ⟨by rfl, ?_⟩) hHeld ?_
  rotate_left
  · intro wz hSw
    (try dsimp only at hSw)
    go_simp
    all_goals (with_reducible rfl)
  try simp only [Act.put, List.setIfInBounds_toArray, List.set_cons_zero, List.set_cons_succ]
  refine wpAnyH_take (i := 36) (oi := { dst := some 206, op := Op.move (Operand.tmp 28), type := 27, pos := "law.go:29", after := #[{ on := 35, ground := Ground.guard }], guard := some (35, true) }) (v := ?_) rfl (by kernel_rfl) (by kernel_rfl) (by kernel_rfl) (fun _ _ _ h => h) (Or.inl ⟨by rfl, ?_⟩) hHeld ?_
  rotate_left
  · intro wz hSw
    (try dsimp only at hSw)
    go_simp
    all_goals (with_reducible rfl)
  try simp only [Act.put, List.setIfInBounds_toArray, List.set_cons_zero, List.set_cons_succ]
  refine wpAnyH_take (i := 37) (oi := { dst := some 207, op := Op.binOp BinOp.eql 27 (Operand.tmp 206) (Operand.const (Value.int IntKind.i64 0)) 27, type := 4, pos := "law.go:29", after := #[{ on := 36, ground := Ground.data }, { on := 35, ground := Ground.guard }], guard := some (35, true) }) (v := ?_) rfl (by kernel_rfl) (by kernel_rfl) (by kernel_rfl) (fun _ _ _ h => h) (Or.inl ⟨by rfl, ?_⟩) hHeld ?_
  rotate_left
  · intro wz hSw
    (try dsimp only at hSw)
    go_simp
    all_goals (with_reducible rfl)
  try simp only [Act.put, List.setIfInBounds_toArray, List.set_cons_zero, List.set_cons_succ]
  refine wpAnyH_take (i := 38) (oi := { dst := some 208, op := Op.pick (Operand.tmp 205) (Operand.tmp 207) (Operand.const (Value.bool false)), type := 4, pos := "law.go:29", after := #[{ on := 35, ground := Ground.data }, { on := 37, ground := Ground.data }], guard := none }) (v := ?_) rfl (by kernel_rfl) (by kernel_rfl) (by kernel_rfl) (fun _ _ _ h => h) (Or.inl ⟨by rfl, ?_⟩) hHeld ?_
  rotate_left
  · intro wz hSw
    (try dsimp only at hSw)
    go_simp
    all_goals (with_reducible rfl)
  try simp only [Act.put, List.setIfInBounds_toArray, List.set_cons_zero, List.set_cons_succ]
  refine wpAnyH_take (i := 39) (oi := { dst := some 209, op := Op.move (Operand.tmp 208), type := 4, pos := "law.go:29", after := #[{ on := 38, ground := Ground.data }, { on := 35, ground := Ground.chain }], guard := none }) (v := ?_) rfl (by kernel_rfl) (by kernel_rfl) (by kernel_rfl) (fun _ _ _ h => h) (Or.inl ⟨by rfl, ?_⟩) hHeld ?_
  rotate_left
  · intro wz hSw
    (try dsimp only at hSw)
    go_simp
    all_goals (with_reducible rfl)
  try simp only [Act.put, List.setIfInBounds_toArray, List.set_cons_zero, List.set_cons_succ]
  refine wpAnyH_take (i := 40) (oi := { dst := some 210, op := Op.move (Operand.tmp 27), type := 36, pos := "law.go:29", after := #[{ on := 39, ground := Ground.guard }], guard := some (39, true) }) (v := ?_) rfl (by kernel_rfl) (by kernel_rfl) (by kernel_rfl) (fun _ _ _ h => h) (Or.inl ⟨by rfl, ?_⟩) hHeld ?_
  rotate_left
  · intro wz hSw
    (try dsimp only at hSw)
    go_simp
    all_goals (with_reducible rfl)
  try simp only [Act.put, List.setIfInBounds_toArray, List.set_cons_zero, List.set_cons_succ]
  refine wpAnyH_take (i := 41) (oi := { dst := some 211, op := Op.call { callee := Callee.builtin Builtin.len, args := #[Operand.tmp 210], argTypes := #[36] }, type := 3, pos := "law.go:29", after := #[{ on := 40, ground := Ground.data }, { on := 39, ground := Ground.guard }], guard := some (39, true) }) (v := ?_) rfl (by kernel_rfl) (by kernel_rfl) (by kernel_rfl) (fun _ _ _ h => h) (Or.inl ⟨by rfl, ?_⟩) hHeld ?_
  rotate_left
  · intro wz hSw
    (try dsimp only at hSw)
    go_simp
    all_goals (with_reducible rfl)
  try simp only [Act.put, List.setIfInBounds_toArray, List.set_cons_zero, List.set_cons_succ]
  refine wpAnyH_take (i := 42) (oi := { dst := some 212, op := Op.binOp BinOp.eql 3 (Operand.tmp 211) (Operand.const (Value.int IntKind.i64 0)) 3, type := 4, pos := "law.go:29", after := #[{ on := 41, ground := Ground.data }, { on := 39, ground := Ground.guard }], guard := some (39, true) }) (v := ?_) rfl (by kernel_rfl) (by kernel_rfl) (by kernel_rfl) (fun _ _ _ h => h) (Or.inl ⟨by rfl, ?_⟩) hHeld ?_
  rotate_left
  · intro wz hSw
    (try dsimp only at hSw)
    go_simp
    all_goals (with_reducible rfl)
  try simp only [Act.put, List.setIfInBounds_toArray, List.set_cons_zero, List.set_cons_succ]
  refine wpAnyH_take (i := 43) (oi := { dst := some 213, op := Op.pick (Operand.tmp 209) (Operand.tmp 212) (Operand.const (Value.bool false)), type := 4, pos := "law.go:29", after := #[{ on := 39, ground := Ground.data }, { on := 42, ground := Ground.data }], guard := none }) (v := ?_) rfl (by kernel_rfl) (by kernel_rfl) (by kernel_rfl) (fun _ _ _ h => h) (Or.inl ⟨by rfl, ?_⟩) hHeld ?_
  rotate_left
  · intro wz hSw
    (try dsimp only at hSw)
    go_simp
    all_goals (with_reducible rfl)
  try simp only [Act.put, List.setIfInBounds_toArray, List.set_cons_zero, List.set_cons_succ]
  refine wpAnyH_take (i := 44) (oi := { dst := some 214, op := Op.move (Operand.tmp 213), type := 4, pos := "law.go:29", after := #[{ on := 43, ground := Ground.data }, { on := 39, ground := Ground.chain }], guard := none }) (v := ?_) rfl (by kernel_rfl) (by kernel_rfl) (by kernel_rfl) (fun _ _ _ h => h) (Or.inl ⟨by rfl, ?_⟩) hHeld ?_
  rotate_left
  · intro wz hSw
    (try dsimp only at hSw)
    go_simp
    all_goals (with_reducible rfl)
  try simp only [Act.put, List.setIfInBounds_toArray, List.set_cons_zero, List.set_cons_succ]
  refine wpAnyH_take (i := 45) (oi := { dst := some 215, op := Op.move (Operand.tmp 30), type := 27, pos := "law.go:29", after := #[{ on := 44, ground := Ground.guard }], guard := some (44, true) }) (v := ?_) rfl (by kernel_rfl) (by kernel_rfl) (by kernel_rfl) (fun _ _ _ h => h) (Or.inl ⟨by rfl, ?_⟩) hHeld ?_
  rotate_left
  · intro wz hSw
    (try dsimp only at hSw)
    go_simp
    all_goals (with_reducible rfl)
  try simp only [Act.put, List.setIfInBounds_toArray, List.set_cons_zero, List.set_cons_succ]
  refine wpAnyH_take (i := 46) (oi := { dst := some 216, op := Op.binOp BinOp.eql 27 (Operand.tmp 215) (Operand.const (Value.int IntKind.i64 1)) 27, type := 4, pos := "law.go:29", after := #[{ on := 45, ground := Ground.data }, { on := 44, ground := Ground.guard }], guard := some (44, true) }) (v := ?_) rfl (by kernel_rfl) (by kernel_rfl) (by kernel_rfl) (fun _ _ _ h => h) (Or.inl ⟨by rfl, ?_⟩) hHeld ?_
  rotate_left
  · intro wz hSw
    (try dsimp only at hSw)
    go_simp
    all_goals (with_reducible rfl)
  try simp only [Act.put, List.setIfInBounds_toArray, List.set_cons_zero, List.set_cons_succ]
  refine wpAnyH_take (i := 47) (oi := { dst := some 217, op := Op.pick (Operand.tmp 214) (Operand.tmp 216) (Operand.const (Value.bool false)), type := 4, pos := "law.go:29", after := #[{ on := 44, ground := Ground.data }, { on := 46, ground := Ground.data }], guard := none }) (v := ?_) rfl (by kernel_rfl) (by kernel_rfl) (by kernel_rfl) (fun _ _ _ h => h) (Or.inl ⟨by rfl, ?_⟩) hHeld ?_
  rotate_left
  · intro wz hSw
    (try dsimp only at hSw)
    go_simp
    all_goals (with_reducible rfl)
  try simp only [Act.put, List.setIfInBounds_toArray, List.set_cons_zero, List.set_cons_succ]
  refine wpAnyH_take (i := 48) (oi := { dst := some 0, op := Op.assign (Operand.tmp 217), type := 4, pos := "law.go:29", after := #[{ on := 47, ground := Ground.data }, { on := 44, ground := Ground.chain }, { on := 0, ground := Ground.phase }, { on := 1, ground := Ground.phase }, { on := 2, ground := Ground.phase }, { on := 3, ground := Ground.phase }, { on := 4, ground := Ground.phase }, { on := 5, ground := Ground.phase }, { on := 6, ground := Ground.phase }, { on := 7, ground := Ground.phase }, { on := 8, ground := Ground.phase }, { on := 9, ground := Ground.phase }, { on := 10, ground := Ground.phase }, { on := 11, ground := Ground.phase }, { on := 12, ground := Ground.phase }, { on := 13, ground := Ground.phase }, { on := 14, ground := Ground.phase }, { on := 15, ground := Ground.phase }, { on := 16, ground := Ground.phase }, { on := 17, ground := Ground.phase }, { on := 18, ground := Ground.phase }, { on := 19, ground := Ground.phase }, { on := 20, ground := Ground.phase }, { on := 21, ground := Ground.phase }, { on := 22, ground := Ground.phase }, { on := 23, ground := Ground.phase }, { on := 24, ground := Ground.phase }, { on := 25, ground := Ground.phase }, { on := 26, ground := Ground.phase }, { on := 27, ground := Ground.phase }, { on := 28, ground := Ground.phase }, { on := 29, ground := Ground.phase }, { on := 30, ground := Ground.phase }, { on := 31, ground := Ground.phase }, { on := 32, ground := Ground.phase }, { on := 33, ground := Ground.phase }, { on := 34, ground := Ground.phase }, { on := 35, ground := Ground.phase }, { on := 36, ground := Ground.phase }, { on := 37, ground := Ground.phase }, { on := 38, ground := Ground.phase }, { on := 39, ground := Ground.phase }, { on := 40, ground := Ground.phase }, { on := 41, ground := Ground.phase }, { on := 42, ground := Ground.phase }, { on := 43, ground := Ground.phase }, { on := 44, ground := Ground.phase }, { on := 45, ground := Ground.phase }, { on := 46, ground := Ground.phase }, { on := 47, ground := Ground.phase }], guard := none }) (v := ?_) rfl (by kernel_rfl) (by kernel_rfl) (by kernel_rfl) (fun _ _ _ h => h) (Or.inl ⟨by rfl, ?_⟩) hHeld ?_
  rotate_left
  · intro wz hSw
    (try dsimp only at hSw)
    go_simp
    all_goals (with_reducible rfl)
  try simp only [Act.put, List.setIfInBounds_toArray, List.set_cons_zero]
  refine wpAnyH_done (by kernel_rfl) ?_ _
  go_wp2_with fail
  exact hfin.out _ hHeld.2.2.2.2.2.2
end Go.Proofs.YtlpgjdlkjahdgaaGreatDoor
