/- law32.shown: a device is shown beginnings of one list -/
import Derived.Test.YtiionehcmoginaaDoorVsg
namespace Go
theorem share' {p G : Prop} (h : G → p) (key : G) : p := h key
theorem share {p G : Prop} (h : G → p) (key : G) : p := h key
theorem wp_once1 {P : Program} {c : Code} {Q : Exit → Act → World → Prop} {a : Act} {w : World} (F : Nat → Act) (R : Nat → World → Prop) (h : (∀ x W, R x W → Q .normal (F x) W) → c.wp P Q a w) (key : ∀ x W, R x W → Q .normal (F x) W) : c.wp P Q a w := h key
end Go
namespace Go.Vw
theorem insH_len (h : Hd) : ∀ (l : List Hd), (insH h l).length ≤ l.length + 1
  | [] => by simp [insH]
  | x :: r => by
    have := insH_len h r
    unfold insH
    split
    · simp; omega
    · split <;> simp
theorem acc_len {v : V} {l : List Go.Sto.Ent} {h : Hd} {v' : V} (e : accV v l h = (v', zeroF, 0)) : v'.hs.length ≤ v.hs.length + 1 := by
  have h0 : (accV v l h).2.2 = 0 := by rw [e]
  have h1 := (acc_ok h0).2.2.1
  rw [e] at h1
  rw [h1]
  exact insH_len h v.hs
end Go.Vw
namespace Go.Proofs.YtiionehcmoginaaDoor
open Go.RowKit Go.Mem Go.Shelf
open Go.Sto (Ent)
open Go.Vw (entT Hd Fk Sg newV zeroF accV Hon)

theorem vmN0 {st fo pub : Int} (h1 : I64 st) (h2 : I64 fo) (h3 : I64 pub) (W : World) : VM W (newV st fo pub) none 0 0 none 0 0 := ⟨h1, h2, h3, ds_nil _, HS.nil0 _, Nat.zero_le _⟩
theorem rem_bd' (x n : Nat) : x % (n + 1) ≤ n ∧ Int.tmod (x : Int) ((n : Int) + 1) = ((x % (n + 1) : Nat) : Int) := ⟨Nat.le_of_lt_succ (Nat.mod_lt x (Nat.succ_pos n)), by rw [show ((n : Int) + 1) = ((n + 1 : Nat) : Int) by omega]; exact (Int.ofNat_tmod x (n + 1)).symm⟩
/-- the longest beginning that was shown. -/
def mostN (n : Nat) (l : List Nat) : Nat := l.foldl (fun m x => max m (x % (n + 1))) 0
theorem mostN_step {n k x : Nat} {l : List Nat} (h : l[k]? = some x) : mostN n (l.take (k + 1)) = max (mostN n (l.take k)) (x % (n + 1)) := by
  have hk := (List.getElem?_eq_some_iff.1 h).1
  unfold mostN
  rw [List.take_succ_eq_append_getElem hk, List.foldl_append, (List.getElem?_eq_some_iff.1 h).2]
  rfl
/-- what the loop of shown keeps. -/
structure ShB (w : World) (tb g12 : Nat) (id pv fo q : Int) (P : List (List Nat)) (v : Go.Vw.V) (m k : Nat) (xa : Option Addr) (xn xc : Nat) (ya : Option Addr) (yn yc : Nat) (W : World) : Prop where
  bS : Blk W tb 27 [.int .i64 id, .int .i64 pv, .slice none 0 0]
  bZ : Blk W (tb + 1) 36 zrV
  bV : Blk W g12 36 [.int .i64 v.st, .int .i64 v.fo, .int .i64 v.pub, .slice xa xn xc, .slice ya yn yc]
  vm : VM W v xa xn xc ya yn yc
  hon : Hon id fo q P m v
  len : v.hs.length ≤ k
  s1 : 0 < xn → ∀ ad, xa = some ad → ad.block ≠ g12 ∧ ad.block ≠ tb + 1
  s2 : 0 < yn → ∀ ad, ya = some ad → ad.block ≠ g12 ∧ ad.block ≠ tb + 1
  bel : Below w.heap.size w W
theorem ShB.below {w : World} {tb g12 : Nat} {id pv fo q : Int} {P : List (List Nat)} {v : Go.Vw.V} {m k : Nat} {xa ya : Option Addr} {xn xc yn yc : Nat} {W W' : World} (h : ShB w tb g12 id pv fo q P v m k xa xn xc ya yn yc W) (hb : Below W.heap.size W W') : ShB w tb g12 id pv fo q P v m k xa xn xc ya yn yc W' :=
  ⟨h.bS.below hb h.bS.lt, h.bZ.below hb h.bZ.lt, h.bV.below hb h.bV.lt, h.vm.below hb, h.hon, h.len, h.s1, h.s2, h.bel.trans (hb.mono h.bel.size)⟩
/-- what shown hands back. -/
def ShnPost (id fo q : Int) (P : List (List Nat)) (m _k : Nat) (w : World) (e : Ending) (w' : World) : Prop :=
  ∃ v xa xn xc ya yn yc, e = .returned (.tuple #[.agg #[.int .i64 v.st, .int .i64 v.fo, .int .i64 v.pub, .slice xa xn xc, .slice ya yn yc], .bool true]) ∧ VM w' v xa xn xc ya yn yc ∧ Hon id fo q P m v ∧ Below w.heap.size w w'

set_option maxRecDepth 100000 in
set_option maxHeartbeats 40000000 in
theorem shown_any (id pv fo q : Int) (hB : OpenB id pv fo = true) (hq : Hid (pubB 4 pv = q)) (iid : I64 id) (ifo : I64 fo) (ea : Option Addr) (tn ec : Nat) (es : List Ent) (P : List (List Nat)) (hPP : Hid (es.map (fun e : Ent => e.dig) = P)) (t8 : tn ≤ 8)
    (ca : Option Addr) (cn cc : Nat) (cuts : List Nat) (hcn : cn ≤ 1000) (w : World) (HT : Tabs w) (HE : ES (fun _ => True) w ea tn ec es) (hokE : ∀ e ∈ es, OkE e) (hent : ∀ e ∈ es, Go.Vw.entOk e = true) (HC : BW w ca cn cc cuts) :
    Calls Tryd.prog 11 #[.agg #[.int .i64 id, .int .i64 pv, .slice none 0 0], .int .i64 q, .int .i64 fo, .slice ea tn ec, .slice ca cn cc] w (ShnPost id fo q P (mostN tn cuts) cn w) := by
  have HT' := Lib.hid HT; have HE' := Lib.hid HE; have HC' := Lib.hid HC; have hokE' := Lib.hid hokE; have hent' := Lib.hid hent; have hB' := Lib.hid hB
  have lel := Lib.hid HE.rs.len
  have lcl : Hid (cuts.length = cn) := by
    rcases HC with h | ⟨rfl, rfl, rfl, _⟩
    · exact h.len
    · rfl
  clear HT HE HC hokE hent hB
  obtain ⟨h1d, -, h2d, -⟩ := openB_iff hB'.out
  have h1d' := Lib.hid h1d; have h2d' := Lib.hid h2d
  clear h1d h2d
  have hpq64 : Hid (I64 q) := by
    have hbd := pubB_bd 4 pv
    rw [hq.out] at hbd
    exact ⟨by omega, by omega⟩
  have hPl : Hid (P.length = tn) := by show _ = _; rw [← hPP.out, List.length_map]; exact lel.out
  have hPt : Hid (∀ j, (es.take j).map (fun e : Ent => e.dig) = P.take j) := fun j => by rw [← hPP.out]; exact List.map_take
  obtain ⟨X, hX⟩ : ∃ X, X = ShnPost id fo q P (mostN tn cuts) cn w := ⟨_, rfl⟩
  rw [← hX]
  have hX' := Lib.hid hX
  clear hX
  obtain ⟨tb, htb⟩ : ∃ tb, Hid (w.heap.size = tb) := ⟨_, rfl⟩
  obtain ⟨W1, hW1⟩ : ∃ W1, W1 = (w.alloc (.cells #[.int .i64 id, .int .i64 pv, .slice none 0 0] 27)).alloc (.cells (zrV : List Value).toArray 36) := ⟨_, rfl⟩
  have e1 : (w.alloc (.cells #[.int .i64 id, .int .i64 pv, .slice none 0 0] 27)).heap.size = tb + 1 := by rw [World.size_alloc, htb.out]
  have hBs : Hid (Blk W1 tb 27 [.int .i64 id, .int .i64 pv, .slice none 0 0]) := by rw [hW1, ← htb.out]; exact (Blk.new w _ _).alloc _
  have hBz : Hid (Blk W1 (tb + 1) 36 zrV) := by rw [hW1, ← e1]; exact Blk.new _ _ _
  have hbw : Hid (Below w.heap.size w W1) := by rw [hW1]; exact ((Below.refl _ w).alloc (Nat.le_refl _) _).alloc (by simp) _
  clear e1
  go_enter Tryd.func11, Tryd.ntmps11
  go_upto_region 1 with fail
  rw [htb.out]
  generalize hWq : (w.alloc _).alloc _ = Wq
  obtain rfl : W1 = Wq := by rw [← hWq, hW1]; rfl
  clear hWq hW1
  have s0 := hBs.out.at_ (i := 0) rfl
  go_wp2_with fail
  refine (viewNew_any id fo q _).mono ?_
  rintro e w2 ⟨rfl, hst⟩
  clear s0
  replace hBs := Lib.hid (hBs.out.below hst hBs.out.lt)
  replace hBz := Lib.hid (hBz.out.below hst hBz.out.lt)
  replace hbw := Lib.hid (hbw.out.trans (hst.mono hbw.out.size))
  clear hst
  have hg10 := hBz.out.lt
  obtain ⟨v2, hP⟩ : ∃ V, Hid (PutR 36 (w2.alloc (.cells (zrV : List Value).toArray 36)) V w2.heap.size 36 ([.int .i64 id, .int .i64 fo, .int .i64 q, .slice none 0 0, .slice none 0 0])) := put_row (Blk.new w2 36 (zrV)) rfl (sizeVw) (view_one _ _ _ _ _ _ _ _ _)
  have hst := below_grown ((Below.refl _ w2).alloc (Nat.le_refl _) _) hP.out.grown (by simp) (Nat.le_refl _)
  replace hBs := Lib.hid (hBs.out.below hst hBs.out.lt)
  replace hBz := Lib.hid (hBz.out.below hst hBz.out.lt)
  replace hbw := Lib.hid (hbw.out.trans (hst.mono hbw.out.size))
  clear hst
  have hBv := Lib.hid hP.out.blk
  obtain ⟨g12, hg12⟩ : ∃ g, Hid (w2.heap.size = g) := ⟨_, rfl⟩
  rw [hg12.out] at hg10
  go_wp2_with (first
    | (refine wpList_store_mid (by rfl) 36 (.tmp 12) (.tmp 24) (by rfl) w2.heap.size 0 ([.int .i64 id, .int .i64 fo, .int .i64 q, .slice none 0 0, .slice none 0 0]).toArray (by rfl) (by rfl) hP.out.there hP.out.info (by simpa using hP.out.one) ?_
       generalize hWq : World.setCells _ _ _ _ = Wa
       obtain rfl : v2 = Wa := by rw [← hWq]; exact hP.out.eq
       clear hWq))
  clear hP
  rw [hg12.out]
  rw [hg12.out] at hBv
  have hB0 : Hid (ShB w tb g12 id pv fo q P (newV id fo q) 0 0 none 0 0 none 0 0 v2) := ⟨hBs.out, hBz.out, hBv.out, vmN0 iid ifo hpq64.out _, Go.Vw.hon_new h1d'.out h2d'.out, Nat.le_refl _, (fun h => absurd h (Nat.lt_irrefl 0)), (fun h => absurd h (Nat.lt_irrefl 0)), hbw.out⟩
  clear hBs hBz hBv hbw
  have c63 : (cn : Int) ≤ 1000 := by omega
  go_loopw [13] (fun i wr => ∃ (k : Nat) (v : Go.Vw.V) (xa : Option Addr) (xn xc : Nat) (ya : Option Addr) (yn yc : Nat), k ≤ cn ∧ i = .int .i64 k ∧ Hid (ShB w tb g12 id pv fo q P v (mostN tn (cuts.take k)) k xa xn xc ya yn yc wr)) (fun i _ => cn - (intOf i).toNat)
  case atStart => exact ⟨0, _, _, _, _, _, _, _, Nat.zero_le _, rfl, hB0⟩
  case round =>
    obtain ⟨k, v, xa, xn, xc, ya, yn, yc, hk, rfl, H⟩ := hrel
    clear hB0
    by_cases hlt : k < cn
    · obtain ⟨x, hx⟩ : ∃ x, cuts[k]? = some x := ⟨_, List.getElem?_eq_getElem (by have := lcl.out; omega)⟩
      have hbs : BS w ca cn cc cuts := by
        rcases HC'.out with h | ⟨h0, _⟩
        · exact h
        · omega
      have hx256 := hbs.lt x (List.mem_of_getElem? hx)
      obtain ⟨ad, rfl⟩ : ∃ ad, ca = some ad := by
        cases hca : ca with
        | some ad => exact ⟨ad, rfl⟩
        | none => have := hbs.nil hca; omega
      obtain ⟨cb, co, rfl, hcb, hcell⟩ := hbs.cells ad rfl
      have cx := (H.out.bel.cell (p := ⟨cb, co + k, none⟩) hcb).trans (hcell k x hx)
      have hms := Lib.hid (mostN_step (n := tn) hx)
      obtain ⟨hm, em⟩ := rem_bd' x tn
      obtain ⟨m, hmm⟩ : ∃ m, Hid (x % (tn + 1) = m) := ⟨_, rfl⟩
      rw [hmm.out] at hm em hms
      clear hmm hbs hcell hx
      obtain ⟨hA, okA, sA, cA⟩ := sign_for (n := m) (es := es.take m) hB'.out ifo (by omega) (by rw [List.length_take, lel.out]; omega) (fun e he => hokE'.out e (List.mem_of_mem_take he))
      rw [hq.out, hPt.out] at sA
      obtain ⟨v', eacc, honV⟩ := Go.Vw.hon_step H.out.hon (n := m) (l := es.take m) (h := hA) (by rw [hPl.out]; exact hm) (hPt.out m) (fun y hy => hent'.out y (List.mem_of_mem_take hy)) sA
      have eacc' := Lib.hid eacc
      have honV' := Lib.hid honV
      have hl' := Lib.hid (Go.Vw.acc_len eacc)
      have cA' := Lib.hid cA
      rw [← hms.out] at honV'
      clear sA cA eacc honV hms
      have k0 : (0 : Int) ≤ (k : Int) := by omega
      have k1 : (k : Int) < (cn : Int) := by omega
      have w1x : IntKind.i64.wrap (x : Int) = (x : Int) := IntWalk.i64_in _ (by omega)
      have w1n : IntKind.i64.wrap ((tn : Int) + 1) = (tn : Int) + 1 := IntWalk.i64_in _ (by omega)
      have nz2 : ((tn : Int) + 1 = 0) = False := by simp; omega
      go_upto_region 6 with fail
      clear w1x w1n nz2 em cx
      have hsl := fun W => slice_h HE'.out hm W
      have s0 := H.out.bS.at_ (i := 0) rfl
      have s1 := H.out.bS.at_ (i := 1) rfl
      have s2 := H.out.bS.at_ (i := 2) rfl
      have glt := H.out.bS.lt
      have hEk := Lib.hid ((HE'.out.below H.out.bel).take (k := m) hm)
      refine wp_once1 ?F6 (fun q W => Blk W q 46 (hdC hA) ∧ Below wr.heap.size wr W) ?h6 ?key6
      case h6 =>
        intro key
        have key' := Lib.hid key
        clear key
        refine wp_region_held_drew (S := fun wz => Below wr.heap.size wr wz) (by kernel_rfl) ((Below.refl _ wr).drew) (fun hHeld => ?_)
        refine wpAnyH_take (i := 0) (oi := { dst := some 41, op := Op.load 27 (Operand.tmp 5), type := 27, pos := _, after := _, guard := none }) (v := ?_) rfl (by kernel_rfl) (by kernel_rfl) (by kernel_rfl) (fun _ _ _ h => h) (Or.inl ⟨by rfl, ?_⟩) hHeld ?_
        rotate_left
        · intro wz hSw
          have q0 := (hSw.cell (p := ⟨tb, 0, none⟩) glt).trans s0
          have q1 := (hSw.cell (p := ⟨tb, 1, none⟩) glt).trans s1
          have q2 := (hSw.cell (p := ⟨tb, 2, none⟩) glt).trans s2
          go_simp
          all_goals (with_reducible rfl)
        try simp only [Act.put, List.setIfInBounds_toArray, List.set_cons_zero, List.set_cons_succ]
        refine wpAnyH_take (i := 1) (oi := { dst := some 42, op := Op.move (Operand.tmp 2), type := 3, pos := _, after := _, guard := none }) (v := ?_) rfl (by kernel_rfl) (by kernel_rfl) (by kernel_rfl) (fun _ _ _ h => h) (Or.inl ⟨by rfl, ?_⟩) hHeld ?_
        rotate_left
        · intro wz hSw
          go_simp
          all_goals (with_reducible rfl)
        try simp only [Act.put, List.setIfInBounds_toArray, List.set_cons_zero, List.set_cons_succ]
        refine wpAnyH_take (i := 2) (oi := { dst := some 43, op := Op.move (Operand.tmp 3), type := 31, pos := _, after := _, guard := none }) (v := ?_) rfl (by kernel_rfl) (by kernel_rfl) (by kernel_rfl) (fun _ _ _ h => h) (Or.inl ⟨by rfl, ?_⟩) hHeld ?_
        rotate_left
        · intro wz hSw
          go_simp
          all_goals (with_reducible rfl)
        try simp only [Act.put, List.setIfInBounds_toArray, List.set_cons_zero, List.set_cons_succ]
        refine wpAnyH_take (i := 3) (oi := { dst := some 44, op := Op.move (Operand.tmp 14), type := 3, pos := _, after := _, guard := none }) (v := ?_) rfl (by kernel_rfl) (by kernel_rfl) (by kernel_rfl) (fun _ _ _ h => h) (Or.inl ⟨by rfl, ?_⟩) hHeld ?_
        rotate_left
        · intro wz hSw
          go_simp
          all_goals (with_reducible rfl)
        try simp only [Act.put, List.setIfInBounds_toArray, List.set_cons_zero, List.set_cons_succ]
        refine wpAnyH_take (i := 4) (oi := { dst := some 45, op := Op.slice 31 (Operand.tmp 43) none (some (Operand.tmp 44)) none, type := 31, pos := _, after := _, guard := none }) (v := ?_) rfl (by kernel_rfl) (by kernel_rfl) (by kernel_rfl) (fun _ _ _ h => h) (Or.inl ⟨by rfl, ?_⟩) hHeld ?_
        rotate_left
        · intro wz hSw
          go_simp
          all_goals (with_reducible rfl)
        try simp only [Act.put, List.setIfInBounds_toArray, List.set_cons_zero, List.set_cons_succ]
        refine wpAnyH_ready (rs := [5, 9]) (by kernel_rfl) (by simp) ?_
        refine AllReadyH.cons (o := { dst := some 46, op := Op.call { callee := Callee.value (Operand.func 17), args := #[Operand.tmp 41, Operand.tmp 42, Operand.tmp 45], argTypes := #[27, 3, 31] }, type := 55, pos := _, after := _, guard := none }) rfl (fun K hK => ?_) (AllReadyH.cons (o := { dst := some 15, op := Op.alloc 46, type := 0, pos := _, after := _, guard := none }) rfl (fun K hK => ?_) AllReadyH.nil)
        case refine_1 =>
          rw [if_pos (by rfl)]
          show Oper.wp _ _ _ _ K _
          go_simp
          go_at_call 17
          refine (cA'.out ea ec _ (HT'.out.below (H.out.bel.trans (hHeld.mono H.out.bel.size))) (hEk.out.below hHeld)).mono ?_
          rintro e wq ⟨rfl, hbq⟩
          refine hK.out _ _ (hHeld.trans (hbq.mono hHeld.size)) (fun hHeld => ?_)
          clear hbq
          clear hK K
          try simp only [Act.put, List.setIfInBounds_toArray, List.set_cons_zero, List.set_cons_succ]
          refine wpAnyH_take (i := 6) (oi := { dst := some 40, op := Op.move (Operand.tmp 46), type := 55, pos := _, after := _, guard := none }) (v := ?_) rfl (by kernel_rfl) (by kernel_rfl) (by kernel_rfl) (fun _ _ _ h => h) (Or.inl ⟨by rfl, ?_⟩) hHeld ?_
          rotate_left
          · intro wz hSw
            go_simp
            all_goals (with_reducible rfl)
          try simp only [Act.put, List.setIfInBounds_toArray, List.set_cons_zero, List.set_cons_succ]
          refine wpAnyH_take (i := 7) (oi := { dst := some 47, op := Op.extract (Operand.tmp 40) 0, type := 46, pos := _, after := _, guard := none }) (v := ?_) rfl (by kernel_rfl) (by kernel_rfl) (by kernel_rfl) (fun _ _ _ h => h) (Or.inl ⟨by rfl, ?_⟩) hHeld ?_
          rotate_left
          · intro wz hSw
            go_simp
            all_goals (with_reducible rfl)
          try simp only [Act.put, List.setIfInBounds_toArray, List.set_cons_zero, List.set_cons_succ]
          refine wpAnyH_take (i := 8) (oi := { dst := some 48, op := Op.extract (Operand.tmp 40) 1, type := 39, pos := _, after := _, guard := none }) (v := ?_) rfl (by kernel_rfl) (by kernel_rfl) (by kernel_rfl) (fun _ _ _ h => h) (Or.inl ⟨by rfl, ?_⟩) hHeld ?_
          rotate_left
          · intro wz hSw
            go_simp
            all_goals (with_reducible rfl)
          try simp only [Act.put, List.setIfInBounds_toArray, List.set_cons_zero, List.set_cons_succ]
          have hsz := hHeld.size
          refine wpAnyH_ready (rs := [9]) (by kernel_rfl) (by simp) ?_
          refine AllReadyH.cons (o := { dst := some 15, op := Op.alloc 46, type := 0, pos := _, after := _, guard := none }) rfl (fun K hK => ?_) AllReadyH.nil
          rw [if_pos (by rfl)]
          show Oper.wp _ _ _ _ K _
          go_simp
          refine hK.out _ _ (hHeld.alloc hHeld.size _) (fun hHeld => ?_)
          clear hK K
          try simp only [Act.put, List.setIfInBounds_toArray, List.set_cons_zero, List.set_cons_succ]
          have hB2 : Blk (wq.alloc (.cells zrH.toArray 46)) wq.heap.size 46 zrH := Blk.new wq _ _
          obtain ⟨W3, hQ⟩ := put_row (ty := 46) hB2 (x := hdC hA) (by rw [hdC_len okA]; rfl) (by rw [hdC_len okA]; exact sizeH) (hdC_r okA).one
          have hb3 := below_grown hHeld hQ.grown hHeld.size (hsz)
          refine wpAnyH_ready (rs := [10]) (by kernel_rfl) (by simp) ?_
          refine AllReadyH.cons (o := { dst := none, op := Op.store 46 (Operand.tmp 15) (Operand.tmp 47), type := 0, pos := _, after := _, guard := none }) rfl (fun K hK => ?_) AllReadyH.nil
          rw [if_pos (by rfl)]
          refine wp_store_mid 46 _ _ rfl wq.heap.size 0 (hdC hA).toArray (by rfl) (by rfl) hQ.there hQ.info (by simpa using hQ.one) ?_
          generalize hWq : World.setCells _ _ _ _ = Wa
          obtain rfl : W3 = Wa := by rw [← hWq]; exact hQ.eq
          clear hWq
          refine hK.out _ _ hb3 (fun hHeld => ?_)
          clear hK K
          try simp only [Act.put]
          refine wpAnyH_take (i := 11) (oi := { dst := some 16, op := Op.assign (Operand.tmp 48), type := 39, pos := _, after := _, guard := none }) (v := ?_) rfl (by kernel_rfl) (by kernel_rfl) (by kernel_rfl) (fun _ _ _ h => h) (Or.inl ⟨by rfl, ?_⟩) hHeld ?_
          rotate_left
          · intro wz hSw
            go_simp
            all_goals (with_reducible rfl)
          try simp only [Act.put, List.setIfInBounds_toArray, List.set_cons_zero, List.set_cons_succ]
          refine wpAnyH_done (by kernel_rfl) ?_ _
          obtain ⟨q, hq⟩ : ∃ q, Hid (wq.heap.size = q) := ⟨_, rfl⟩
          have hbk := hQ.blk
          rw [hq.out] at hbk
          rw [hq.out]
          exact key'.out q W3 ⟨hbk, hHeld⟩
        case refine_2 =>
          rw [if_pos (by rfl)]
          show Oper.wp _ _ _ _ K _
          go_simp
          refine hK.out _ _ (hHeld.alloc hHeld.size _) (fun hHeld => ?_)
          clear hK K
          try simp only [Act.put, List.setIfInBounds_toArray, List.set_cons_zero, List.set_cons_succ]
          have hB : Blk (wr.drew.alloc (.cells zrH.toArray 46)) wr.heap.size 46 zrH := Blk.new wr.drew _ _
          refine wpAnyH_ready (rs := [5]) (by kernel_rfl) (by simp) ?_
          refine AllReadyH.cons (o := { dst := some 46, op := Op.call { callee := Callee.value (Operand.func 17), args := #[Operand.tmp 41, Operand.tmp 42, Operand.tmp 45], argTypes := #[27, 3, 31] }, type := 55, pos := _, after := _, guard := none }) rfl (fun K hK => ?_) AllReadyH.nil
          rw [if_pos (by rfl)]
          show Oper.wp _ _ _ _ K _
          go_simp
          go_at_call 17
          refine (cA'.out ea ec _ (HT'.out.below (H.out.bel.trans (hHeld.mono H.out.bel.size))) (hEk.out.below hHeld)).mono ?_
          rintro e wq ⟨rfl, hbq⟩
          have hB2 := hB.below hbq hB.lt
          refine hK.out _ _ (hHeld.trans (hbq.mono hHeld.size)) (fun hHeld => ?_)
          clear hbq
          clear hK K
          try simp only [Act.put, List.setIfInBounds_toArray, List.set_cons_zero, List.set_cons_succ]
          refine wpAnyH_take (i := 6) (oi := { dst := some 40, op := Op.move (Operand.tmp 46), type := 55, pos := _, after := _, guard := none }) (v := ?_) rfl (by kernel_rfl) (by kernel_rfl) (by kernel_rfl) (fun _ _ _ h => h) (Or.inl ⟨by rfl, ?_⟩) hHeld ?_
          rotate_left
          · intro wz hSw
            go_simp
            all_goals (with_reducible rfl)
          try simp only [Act.put, List.setIfInBounds_toArray, List.set_cons_zero, List.set_cons_succ]
          refine wpAnyH_take (i := 7) (oi := { dst := some 47, op := Op.extract (Operand.tmp 40) 0, type := 46, pos := _, after := _, guard := none }) (v := ?_) rfl (by kernel_rfl) (by kernel_rfl) (by kernel_rfl) (fun _ _ _ h => h) (Or.inl ⟨by rfl, ?_⟩) hHeld ?_
          rotate_left
          · intro wz hSw
            go_simp
            all_goals (with_reducible rfl)
          try simp only [Act.put, List.setIfInBounds_toArray, List.set_cons_zero, List.set_cons_succ]
          refine wpAnyH_take (i := 8) (oi := { dst := some 48, op := Op.extract (Operand.tmp 40) 1, type := 39, pos := _, after := _, guard := none }) (v := ?_) rfl (by kernel_rfl) (by kernel_rfl) (by kernel_rfl) (fun _ _ _ h => h) (Or.inl ⟨by rfl, ?_⟩) hHeld ?_
          rotate_left
          · intro wz hSw
            go_simp
            all_goals (with_reducible rfl)
          try simp only [Act.put, List.setIfInBounds_toArray, List.set_cons_zero, List.set_cons_succ]
          obtain ⟨W3, hQ⟩ := put_row (ty := 46) hB2 (x := hdC hA) (by rw [hdC_len okA]; rfl) (by rw [hdC_len okA]; exact sizeH) (hdC_r okA).one
          have hb3 := below_grown hHeld hQ.grown hHeld.size (Nat.le_refl _)
          refine wpAnyH_ready (rs := [10]) (by kernel_rfl) (by simp) ?_
          refine AllReadyH.cons (o := { dst := none, op := Op.store 46 (Operand.tmp 15) (Operand.tmp 47), type := 0, pos := _, after := _, guard := none }) rfl (fun K hK => ?_) AllReadyH.nil
          rw [if_pos (by rfl)]
          refine wp_store_mid 46 _ _ rfl wr.heap.size 0 (hdC hA).toArray (by rfl) (by rfl) hQ.there hQ.info (by simpa using hQ.one) ?_
          generalize hWq : World.setCells _ _ _ _ = Wa
          obtain rfl : W3 = Wa := by rw [← hWq]; exact hQ.eq
          clear hWq
          refine hK.out _ _ hb3 (fun hHeld => ?_)
          clear hK K
          try simp only [Act.put]
          refine wpAnyH_take (i := 11) (oi := { dst := some 16, op := Op.assign (Operand.tmp 48), type := 39, pos := _, after := _, guard := none }) (v := ?_) rfl (by kernel_rfl) (by kernel_rfl) (by kernel_rfl) (fun _ _ _ h => h) (Or.inl ⟨by rfl, ?_⟩) hHeld ?_
          rotate_left
          · intro wz hSw
            go_simp
            all_goals (with_reducible rfl)
          try simp only [Act.put, List.setIfInBounds_toArray, List.set_cons_zero, List.set_cons_succ]
          refine wpAnyH_done (by kernel_rfl) ?_ _
          obtain ⟨q, hq⟩ : ∃ q, Hid (wr.heap.size = q) := ⟨_, rfl⟩
          have hbk := hQ.blk
          have hH2 := Lib.hid hHeld
          rw [hq.out] at hbk
          rw [hq.out]
          exact key'.out q W3 ⟨hbk, hH2.out⟩
      case key6 =>
      intro g15 w6 hR
      have hBA := Lib.hid hR.1
      have hst := hR.2
      clear hR hEk s0 s1 s2 glt
      have H6 := Lib.hid (H.out.below hst)
      clear hst H
      have hgl := hBA.out.lt
      have hgr := Lib.hid hBA.out.range
      have hgi := infoHd okA
      go_upto_region 7 with fail
      have v0 := H6.out.bV.at_ (i := 0) rfl
      have v1 := H6.out.bV.at_ (i := 1) rfl
      have v2 := H6.out.bV.at_ (i := 2) rfl
      have v3 := H6.out.bV.at_ (i := 3) rfl
      have v4 := H6.out.bV.at_ (i := 4) rfl
      have vlt := H6.out.bV.lt
      have hEk := Lib.hid ((HE'.out.below H6.out.bel).take (k := m) hm)
      refine share (G := ∀ (q10 : Nat) (q11 : Nat) (za : Option Addr) (zn : Nat) (zc : Nat) (ra : Option Addr) (rn : Nat) (rc : Nat) (fa : Option Addr) (fc : Nat) (WZ : World), (Below w6.heap.size w6 WZ) → (Blk WZ q10 36 ([.int .i64 v'.st, .int .i64 v'.fo, .int .i64 v'.pub, .slice za zn zc, .slice ra rn rc])) → (w6.heap.size ≤ q10) → (Blk WZ q11 48 (forkC zeroF fa 0 fc)) → (w6.heap.size ≤ q11) → (q10 ≠ q11) → (VM WZ v' za zn zc ra rn rc) → (DS WZ fa 0 fc []) → (0 < zn → ∀ ad, za = some ad → ad.block ≠ g12 ∧ ad.block ≠ tb + 1) → (0 < rn → ∀ ad, ra = some ad → ad.block ≠ g12 ∧ ad.block ≠ tb + 1) → (0 < zn → ∀ ad, za = some ad → ad.block ≠ q10) → (0 < zn → ∀ ad, za = some ad → ad.block ≠ q11) → (0 < rn → ∀ ad, ra = some ad → ad.block ≠ q10) → (0 < rn → ∀ ad, ra = some ad → ad.block ≠ q11) → (?GfinR7 : Nat → Nat → Option Addr → Nat → Nat → Option Addr → Nat → Nat → Option Addr → Nat → World → Prop) q10 q11 za zn zc ra rn rc fa fc WZ) ?hfinR7 ?kfinR7
      case' hfinR7 =>
        intro KfinR7
      case' hfinR7 =>
        refine share (G := ∀ (q10 : Nat) (q11 : Nat) (za : Option Addr) (zn : Nat) (zc : Nat) (ra : Option Addr) (rn : Nat) (rc : Nat) (fa : Option Addr) (fc : Nat) (WZ : World), (Below w6.heap.size w6 WZ) → (Blk WZ q10 36 ([.int .i64 v'.st, .int .i64 v'.fo, .int .i64 v'.pub, .slice za zn zc, .slice ra rn rc])) → (w6.heap.size ≤ q10) → (Blk WZ q11 48 (zrF)) → (w6.heap.size ≤ q11) → (q10 ≠ q11) → (VM WZ v' za zn zc ra rn rc) → (DS WZ fa 0 fc []) → (0 < zn → ∀ ad, za = some ad → ad.block ≠ g12 ∧ ad.block ≠ tb + 1) → (0 < rn → ∀ ad, ra = some ad → ad.block ≠ g12 ∧ ad.block ≠ tb + 1) → (0 < zn → ∀ ad, za = some ad → ad.block ≠ q10) → (0 < zn → ∀ ad, za = some ad → ad.block ≠ q11) → (0 < rn → ∀ ad, ra = some ad → ad.block ≠ q10) → (0 < rn → ∀ ad, ra = some ad → ad.block ≠ q11) → (?Gs2_10_11_R7 : Nat → Nat → Option Addr → Nat → Nat → Option Addr → Nat → Nat → Option Addr → Nat → World → Prop) q10 q11 za zn zc ra rn rc fa fc WZ) ?hs2_10_11_R7 ?ks2_10_11_R7
      case' hs2_10_11_R7 => intro Ks2_10_11_R7
      case' hs2_10_11_R7 =>
        refine share (G := ∀ (q10 : Nat) (q11 : Nat) (za : Option Addr) (zn : Nat) (zc : Nat) (ra : Option Addr) (rn : Nat) (rc : Nat) (fa : Option Addr) (fc : Nat) (WZ : World), (Below w6.heap.size w6 WZ) → (Blk WZ q10 36 (zrV)) → (w6.heap.size ≤ q10) → (Blk WZ q11 48 (zrF)) → (w6.heap.size ≤ q11) → (q10 ≠ q11) → (VM WZ v' za zn zc ra rn rc) → (DS WZ fa 0 fc []) → (0 < zn → ∀ ad, za = some ad → ad.block ≠ g12 ∧ ad.block ≠ tb + 1) → (0 < rn → ∀ ad, ra = some ad → ad.block ≠ g12 ∧ ad.block ≠ tb + 1) → (0 < zn → ∀ ad, za = some ad → ad.block ≠ q10) → (0 < zn → ∀ ad, za = some ad → ad.block ≠ q11) → (0 < rn → ∀ ad, ra = some ad → ad.block ≠ q10) → (0 < rn → ∀ ad, ra = some ad → ad.block ≠ q11) → (?Gs1_10_11_R7 : Nat → Nat → Option Addr → Nat → Nat → Option Addr → Nat → Nat → Option Addr → Nat → World → Prop) q10 q11 za zn zc ra rn rc fa fc WZ) ?hs1_10_11_R7 ?ks1_10_11_R7
      case' hs1_10_11_R7 => intro Ks1_10_11_R7
      case' hs1_10_11_R7 =>
        refine share (G := ∀ (q10 : Nat) (za : Option Addr) (zn : Nat) (zc : Nat) (ra : Option Addr) (rn : Nat) (rc : Nat) (fa : Option Addr) (fc : Nat) (WZ : World), (Below w6.heap.size w6 WZ) → (Blk WZ q10 36 (zrV)) → (w6.heap.size ≤ q10) → (VM WZ v' za zn zc ra rn rc) → (DS WZ fa 0 fc []) → (0 < zn → ∀ ad, za = some ad → ad.block ≠ g12 ∧ ad.block ≠ tb + 1) → (0 < rn → ∀ ad, ra = some ad → ad.block ≠ g12 ∧ ad.block ≠ tb + 1) → (0 < zn → ∀ ad, za = some ad → ad.block ≠ q10) → (0 < rn → ∀ ad, ra = some ad → ad.block ≠ q10) → (?Gs1_10_R7 : Nat → Option Addr → Nat → Nat → Option Addr → Nat → Nat → Option Addr → Nat → World → Prop) q10 za zn zc ra rn rc fa fc WZ) ?hs1_10_R7 ?ks1_10_R7
      case' hs1_10_R7 => intro Ks1_10_R7
      case' hs1_10_R7 =>
        refine share (G := ∀ (q11 : Nat) (za : Option Addr) (zn : Nat) (zc : Nat) (ra : Option Addr) (rn : Nat) (rc : Nat) (fa : Option Addr) (fc : Nat) (WZ : World), (Below w6.heap.size w6 WZ) → (Blk WZ q11 48 (zrF)) → (w6.heap.size ≤ q11) → (VM WZ v' za zn zc ra rn rc) → (DS WZ fa 0 fc []) → (0 < zn → ∀ ad, za = some ad → ad.block ≠ g12 ∧ ad.block ≠ tb + 1) → (0 < rn → ∀ ad, ra = some ad → ad.block ≠ g12 ∧ ad.block ≠ tb + 1) → (0 < zn → ∀ ad, za = some ad → ad.block ≠ q11) → (0 < rn → ∀ ad, ra = some ad → ad.block ≠ q11) → (?Gs1_11_R7 : Nat → Option Addr → Nat → Nat → Option Addr → Nat → Nat → Option Addr → Nat → World → Prop) q11 za zn zc ra rn rc fa fc WZ) ?hs1_11_R7 ?ks1_11_R7
      case' hs1_11_R7 => intro Ks1_11_R7
      case' hs1_11_R7 =>
        refine share (G := ∀ (za : Option Addr) (zn : Nat) (zc : Nat) (ra : Option Addr) (rn : Nat) (rc : Nat) (fa : Option Addr) (fc : Nat) (WZ : World), (Below w6.heap.size w6 WZ) → (VM WZ v' za zn zc ra rn rc) → (DS WZ fa 0 fc []) → (0 < zn → ∀ ad, za = some ad → ad.block ≠ g12 ∧ ad.block ≠ tb + 1) → (0 < rn → ∀ ad, ra = some ad → ad.block ≠ g12 ∧ ad.block ≠ tb + 1) → (?Gs1_R7 : Option Addr → Nat → Nat → Option Addr → Nat → Nat → Option Addr → Nat → World → Prop) za zn zc ra rn rc fa fc WZ) ?hs1_R7 ?ks1_R7
      case' hs1_R7 => intro Ks1_R7
      case' hs1_R7 =>
        refine share (G := ∀ (q10 : Nat) (q11 : Nat) (WZ : World), (Below w6.heap.size w6 WZ) → (Blk WZ q10 36 (zrV)) → (w6.heap.size ≤ q10) → (Blk WZ q11 48 (zrF)) → (w6.heap.size ≤ q11) → (q10 ≠ q11) → (?Gs0_10_11_R7 : Nat → Nat → World → Prop) q10 q11 WZ) ?hs0_10_11_R7 ?ks0_10_11_R7
      case' hs0_10_11_R7 => intro Ks0_10_11_R7
      case' hs0_10_11_R7 =>
        refine share (G := ∀ (q10 : Nat) (WZ : World), (Below w6.heap.size w6 WZ) → (Blk WZ q10 36 (zrV)) → (w6.heap.size ≤ q10) → (?Gs0_10_R7 : Nat → World → Prop) q10 WZ) ?hs0_10_R7 ?ks0_10_R7
      case' hs0_10_R7 => intro Ks0_10_R7
      case' hs0_10_R7 =>
        refine share (G := ∀ (q11 : Nat) (WZ : World), (Below w6.heap.size w6 WZ) → (Blk WZ q11 48 (zrF)) → (w6.heap.size ≤ q11) → (?Gs0_11_R7 : Nat → World → Prop) q11 WZ) ?hs0_11_R7 ?ks0_11_R7
      case' hs0_11_R7 => intro Ks0_11_R7
      case hs0_11_R7 =>
        refine wp_region_held_drew (S := fun wz => Below w6.heap.size w6 wz) (by kernel_rfl) ((Below.refl _ w6).drew) (fun hHeld => ?_)
        generalize w6.drew = WZ at *
        refine wpAnyH_take (i := 0) (oi := { dst := some 50, op := Op.load 36 (Operand.tmp 12), type := 36, pos := _, after := _, guard := none }) (v := ?_) rfl (by kernel_rfl) (by kernel_rfl) (by kernel_rfl) (fun _ _ _ h => h) (Or.inl ⟨by rfl, ?_⟩) hHeld ?_
        rotate_left
        · intro wz hSw
          have q0 := (hSw.cell (p := ⟨g12, 0, none⟩) vlt).trans v0
          have q1 := (hSw.cell (p := ⟨g12, 1, none⟩) vlt).trans v1
          have q2 := (hSw.cell (p := ⟨g12, 2, none⟩) vlt).trans v2
          have q3 := (hSw.cell (p := ⟨g12, 3, none⟩) vlt).trans v3
          have q4 := (hSw.cell (p := ⟨g12, 4, none⟩) vlt).trans v4
          go_simp
          all_goals (with_reducible rfl)
        try simp only [Act.put, List.setIfInBounds_toArray, List.set_cons_zero, List.set_cons_succ]
        refine wpAnyH_take (i := 1) (oi := { dst := some 51, op := Op.move (Operand.tmp 3), type := 31, pos := _, after := _, guard := none }) (v := ?_) rfl (by kernel_rfl) (by kernel_rfl) (by kernel_rfl) (fun _ _ _ h => h) (Or.inl ⟨by rfl, ?_⟩) hHeld ?_
        rotate_left
        · intro wz hSw
          go_simp
          all_goals (with_reducible rfl)
        try simp only [Act.put, List.setIfInBounds_toArray, List.set_cons_zero, List.set_cons_succ]
        refine wpAnyH_take (i := 2) (oi := { dst := some 52, op := Op.move (Operand.tmp 14), type := 3, pos := _, after := _, guard := none }) (v := ?_) rfl (by kernel_rfl) (by kernel_rfl) (by kernel_rfl) (fun _ _ _ h => h) (Or.inl ⟨by rfl, ?_⟩) hHeld ?_
        rotate_left
        · intro wz hSw
          go_simp
          all_goals (with_reducible rfl)
        try simp only [Act.put, List.setIfInBounds_toArray, List.set_cons_zero, List.set_cons_succ]
        refine wpAnyH_take (i := 3) (oi := { dst := some 53, op := Op.slice 31 (Operand.tmp 51) none (some (Operand.tmp 52)) none, type := 31, pos := _, after := _, guard := none }) (v := ?_) rfl (by kernel_rfl) (by kernel_rfl) (by kernel_rfl) (fun _ _ _ h => h) (Or.inl ⟨by rfl, ?_⟩) hHeld ?_
        rotate_left
        · intro wz hSw
          go_simp
          all_goals (with_reducible rfl)
        try simp only [Act.put, List.setIfInBounds_toArray, List.set_cons_zero, List.set_cons_succ]
        refine wpAnyH_take (i := 4) (oi := { dst := some 54, op := Op.load 46 (Operand.tmp 15), type := 46, pos := _, after := _, guard := none }) rfl (by kernel_rfl) (by kernel_rfl) (by kernel_rfl) (fun _ _ _ h => h) (yieldsIf_load_mid (by rfl) _ _ rfl g15 0 rfl (hdC hA) _ (fun wz h => fun j v hv => (h.cell (p := ⟨g15, _, none⟩) hgl).trans (hgr.out j v hv)) Tryd.underlying46 rfl (hgi.out)) hHeld ?_
        try simp only [Act.put, List.setIfInBounds_toArray, List.set_cons_zero, List.set_cons_succ]
        refine wpAnyH_ready (rs := [5, 10, 11]) (by kernel_rfl) (by simp) ?_
        refine AllReadyH.cons (o := { dst := some 55, op := Op.call { callee := Callee.value (Operand.func 18), args := #[Operand.tmp 50, Operand.tmp 53, Operand.tmp 54], argTypes := #[36, 31, 46] }, type := 57, pos := _, after := _, guard := none }) rfl (fun K hK => ?_) (AllReadyH.cons (o := { dst := some 17, op := Op.alloc 36, type := 0, pos := _, after := _, guard := none }) rfl (fun K hK => ?_) (AllReadyH.cons (o := { dst := some 18, op := Op.alloc 48, type := 0, pos := _, after := _, guard := none }) rfl (fun K hK => ?_) AllReadyH.nil))
        case refine_1 =>
          rw [if_pos (by rfl)]
          show Oper.wp _ _ _ _ K _
          go_simp
          go_at_call 18
          have hac := accept_sep2 v xa xn xc ya yn yc ea m ec (es.take m) hA okA _ (HT'.out.below (H6.out.bel.trans (hHeld.mono H6.out.bel.size))) (H6.out.vm.below hHeld) (hEk.out.below hHeld) (by have h1 := H6.out.len; have h2 := H6.out.vm.hs.rs.len; omega)
          rw [eacc'.out] at hac
          refine hac.mono ?_
          rintro e wq ⟨za, zn, zc, ra, rn, rc, fa, fn, fc, rfl, hVM, _, hDf, _, hst, hF1, hF2, _⟩
          obtain rfl : fn = 0 := hDf.len.symm
          have hF1g : 0 < zn → ∀ ad, za = some ad → ad.block ≠ g12 ∧ ad.block ≠ tb + 1 := fun hp ad e => by
            rcases hF1 hp ad e with hz | hz
            · have hz2 := hHeld.size; exact ⟨by omega, by omega⟩
            · exact H6.out.s1 hz.1 ad hz.2
          have hF2g : 0 < rn → ∀ ad, ra = some ad → ad.block ≠ g12 ∧ ad.block ≠ tb + 1 := fun hp ad e => by
            rcases hF2 hp ad e with hz | hz
            · have hz2 := hHeld.size; exact ⟨by omega, by omega⟩
            · exact H6.out.s2 hz.1 ad hz.2

          refine hK.out _ _ (hHeld.trans (hst.mono hHeld.size)) (fun hHeld2 => ?_)
          clear hK K
          refine wpAnyH_take (i := 6) (oi := { dst := some 49, op := Op.move (Operand.tmp 55), type := 57, pos := _, after := _, guard := none }) (v := ?_) rfl (by kernel_rfl) (by kernel_rfl) (by kernel_rfl) (fun _ _ _ h => h) (Or.inl ⟨by rfl, ?_⟩) hHeld2 ?_
          rotate_left
          · intro wz hSw
            go_simp
            all_goals (with_reducible rfl)
          try simp only [Act.put, List.setIfInBounds_toArray, List.set_cons_zero, List.set_cons_succ]
          refine wpAnyH_take (i := 7) (oi := { dst := some 56, op := Op.extract (Operand.tmp 49) 0, type := 36, pos := _, after := _, guard := none }) (v := ?_) rfl (by kernel_rfl) (by kernel_rfl) (by kernel_rfl) (fun _ _ _ h => h) (Or.inl ⟨by rfl, ?_⟩) hHeld2 ?_
          rotate_left
          · intro wz hSw
            go_simp
            all_goals (with_reducible rfl)
          try simp only [Act.put, List.setIfInBounds_toArray, List.set_cons_zero, List.set_cons_succ]
          refine wpAnyH_take (i := 8) (oi := { dst := some 57, op := Op.extract (Operand.tmp 49) 1, type := 48, pos := _, after := _, guard := none }) (v := ?_) rfl (by kernel_rfl) (by kernel_rfl) (by kernel_rfl) (fun _ _ _ h => h) (Or.inl ⟨by rfl, ?_⟩) hHeld2 ?_
          rotate_left
          · intro wz hSw
            go_simp
            all_goals (with_reducible rfl)
          try simp only [Act.put, List.setIfInBounds_toArray, List.set_cons_zero, List.set_cons_succ]
          refine wpAnyH_take (i := 9) (oi := { dst := some 58, op := Op.extract (Operand.tmp 49) 2, type := 39, pos := _, after := _, guard := none }) (v := ?_) rfl (by kernel_rfl) (by kernel_rfl) (by kernel_rfl) (fun _ _ _ h => h) (Or.inl ⟨by rfl, ?_⟩) hHeld2 ?_
          rotate_left
          · intro wz hSw
            go_simp
            all_goals (with_reducible rfl)
          try simp only [Act.put, List.setIfInBounds_toArray, List.set_cons_zero, List.set_cons_succ]
          exact Ks1_R7 za zn zc ra rn rc fa fc wq (hHeld2) (hVM) (hDf) (hF1g) (hF2g)
        case refine_2 =>
          rw [if_pos (by rfl)]
          show Oper.wp _ _ _ _ K _
          go_simp
          refine hK.out _ _ (hHeld.alloc hHeld.size _) (fun hHeld2 => ?_)
          clear hK K
          try simp only [Act.put, List.setIfInBounds_toArray, List.set_cons_zero, List.set_cons_succ]
          generalize hW2 : World.alloc WZ _ = W2
          rw [hW2] at hHeld2
          generalize hq : WZ.heap.size = q10
          have hBn : Blk W2 q10 36 (zrV) := by rw [← hW2, ← hq]; exact Blk.new _ _ _
          have hLn := hHeld.size
          rw [hq] at hLn
          clear hW2 hq
          exact Ks0_10_R7 q10 W2 (hHeld2) (hBn) (hLn)
        case refine_3 =>
          rw [if_pos (by rfl)]
          show Oper.wp _ _ _ _ K _
          go_simp
          refine hK.out _ _ (hHeld.alloc hHeld.size _) (fun hHeld2 => ?_)
          clear hK K
          try simp only [Act.put, List.setIfInBounds_toArray, List.set_cons_zero, List.set_cons_succ]
          generalize hW2 : World.alloc WZ _ = W2
          rw [hW2] at hHeld2
          generalize hq : WZ.heap.size = q11
          have hBn : Blk W2 q11 48 (zrF) := by rw [← hW2, ← hq]; exact Blk.new _ _ _
          have hLn := hHeld.size
          rw [hq] at hLn
          clear hW2 hq
          exact Ks0_11_R7 q11 W2 (hHeld2) (hBn) (hLn)
      case ks0_11_R7 =>
        intro q11 WZ hHeld hB11 hL11
        refine wpAnyH_ready (rs := [5, 10]) (by kernel_rfl) (by simp) ?_
        refine AllReadyH.cons (o := { dst := some 55, op := Op.call { callee := Callee.value (Operand.func 18), args := #[Operand.tmp 50, Operand.tmp 53, Operand.tmp 54], argTypes := #[36, 31, 46] }, type := 57, pos := _, after := _, guard := none }) rfl (fun K hK => ?_) (AllReadyH.cons (o := { dst := some 17, op := Op.alloc 36, type := 0, pos := _, after := _, guard := none }) rfl (fun K hK => ?_) AllReadyH.nil)
        case refine_1 =>
          rw [if_pos (by rfl)]
          show Oper.wp _ _ _ _ K _
          go_simp
          go_at_call 18
          have hac := accept_sep2 v xa xn xc ya yn yc ea m ec (es.take m) hA okA _ (HT'.out.below (H6.out.bel.trans (hHeld.mono H6.out.bel.size))) (H6.out.vm.below hHeld) (hEk.out.below hHeld) (by have h1 := H6.out.len; have h2 := H6.out.vm.hs.rs.len; omega)
          rw [eacc'.out] at hac
          refine hac.mono ?_
          rintro e wq ⟨za, zn, zc, ra, rn, rc, fa, fn, fc, rfl, hVM, _, hDf, _, hst, hF1, hF2, _⟩
          obtain rfl : fn = 0 := hDf.len.symm
          have hF1g : 0 < zn → ∀ ad, za = some ad → ad.block ≠ g12 ∧ ad.block ≠ tb + 1 := fun hp ad e => by
            rcases hF1 hp ad e with hz | hz
            · have hz2 := hHeld.size; exact ⟨by omega, by omega⟩
            · exact H6.out.s1 hz.1 ad hz.2
          have hF2g : 0 < rn → ∀ ad, ra = some ad → ad.block ≠ g12 ∧ ad.block ≠ tb + 1 := fun hp ad e => by
            rcases hF2 hp ad e with hz | hz
            · have hz2 := hHeld.size; exact ⟨by omega, by omega⟩
            · exact H6.out.s2 hz.1 ad hz.2
          have hS11a' : 0 < zn → ∀ ad, za = some ad → ad.block ≠ q11 := fun hp ad e => by
            rcases hF1 hp ad e with hz | hz
            · have := hB11.lt; omega
            · have hz2 := H6.out.vm.ds.at_lt hz.1 ad hz.2; omega
          have hS11b' : 0 < rn → ∀ ad, ra = some ad → ad.block ≠ q11 := fun hp ad e => by
            rcases hF2 hp ad e with hz | hz
            · have := hB11.lt; omega
            · have hz2 := H6.out.vm.hs.at_lt hz.1 ad hz.2; omega
          refine hK.out _ _ (hHeld.trans (hst.mono hHeld.size)) (fun hHeld2 => ?_)
          clear hK K
          refine wpAnyH_take (i := 6) (oi := { dst := some 49, op := Op.move (Operand.tmp 55), type := 57, pos := _, after := _, guard := none }) (v := ?_) rfl (by kernel_rfl) (by kernel_rfl) (by kernel_rfl) (fun _ _ _ h => h) (Or.inl ⟨by rfl, ?_⟩) hHeld2 ?_
          rotate_left
          · intro wz hSw
            go_simp
            all_goals (with_reducible rfl)
          try simp only [Act.put, List.setIfInBounds_toArray, List.set_cons_zero, List.set_cons_succ]
          refine wpAnyH_take (i := 7) (oi := { dst := some 56, op := Op.extract (Operand.tmp 49) 0, type := 36, pos := _, after := _, guard := none }) (v := ?_) rfl (by kernel_rfl) (by kernel_rfl) (by kernel_rfl) (fun _ _ _ h => h) (Or.inl ⟨by rfl, ?_⟩) hHeld2 ?_
          rotate_left
          · intro wz hSw
            go_simp
            all_goals (with_reducible rfl)
          try simp only [Act.put, List.setIfInBounds_toArray, List.set_cons_zero, List.set_cons_succ]
          refine wpAnyH_take (i := 8) (oi := { dst := some 57, op := Op.extract (Operand.tmp 49) 1, type := 48, pos := _, after := _, guard := none }) (v := ?_) rfl (by kernel_rfl) (by kernel_rfl) (by kernel_rfl) (fun _ _ _ h => h) (Or.inl ⟨by rfl, ?_⟩) hHeld2 ?_
          rotate_left
          · intro wz hSw
            go_simp
            all_goals (with_reducible rfl)
          try simp only [Act.put, List.setIfInBounds_toArray, List.set_cons_zero, List.set_cons_succ]
          refine wpAnyH_take (i := 9) (oi := { dst := some 58, op := Op.extract (Operand.tmp 49) 2, type := 39, pos := _, after := _, guard := none }) (v := ?_) rfl (by kernel_rfl) (by kernel_rfl) (by kernel_rfl) (fun _ _ _ h => h) (Or.inl ⟨by rfl, ?_⟩) hHeld2 ?_
          rotate_left
          · intro wz hSw
            go_simp
            all_goals (with_reducible rfl)
          try simp only [Act.put, List.setIfInBounds_toArray, List.set_cons_zero, List.set_cons_succ]
          exact Ks1_11_R7 q11 za zn zc ra rn rc fa fc wq (hHeld2) (hB11.below hst hB11.lt) (hL11) (hVM) (hDf) (hF1g) (hF2g) (hS11a') (hS11b')
        case refine_2 =>
          rw [if_pos (by rfl)]
          show Oper.wp _ _ _ _ K _
          go_simp
          refine hK.out _ _ (hHeld.alloc hHeld.size _) (fun hHeld2 => ?_)
          clear hK K
          try simp only [Act.put, List.setIfInBounds_toArray, List.set_cons_zero, List.set_cons_succ]
          generalize hW2 : World.alloc WZ _ = W2
          rw [hW2] at hHeld2
          generalize hq : WZ.heap.size = q10
          have hBn : Blk W2 q10 36 (zrV) := by rw [← hW2, ← hq]; exact Blk.new _ _ _
          have hLn := hHeld.size
          rw [hq] at hLn
          have hB11' : Blk W2 q11 48 (zrF) := by rw [← hW2]; exact hB11.alloc _
          have hN11' := hB11.lt
          rw [hq] at hN11'
          clear hW2 hq
          exact Ks0_10_11_R7 q10 q11 W2 (hHeld2) (hBn) (hLn) (hB11') (hL11) ((by omega))
      case ks0_10_R7 =>
        intro q10 WZ hHeld hB10 hL10
        refine wpAnyH_ready (rs := [5, 11]) (by kernel_rfl) (by simp) ?_
        refine AllReadyH.cons (o := { dst := some 55, op := Op.call { callee := Callee.value (Operand.func 18), args := #[Operand.tmp 50, Operand.tmp 53, Operand.tmp 54], argTypes := #[36, 31, 46] }, type := 57, pos := _, after := _, guard := none }) rfl (fun K hK => ?_) (AllReadyH.cons (o := { dst := some 18, op := Op.alloc 48, type := 0, pos := _, after := _, guard := none }) rfl (fun K hK => ?_) AllReadyH.nil)
        case refine_1 =>
          rw [if_pos (by rfl)]
          show Oper.wp _ _ _ _ K _
          go_simp
          go_at_call 18
          have hac := accept_sep2 v xa xn xc ya yn yc ea m ec (es.take m) hA okA _ (HT'.out.below (H6.out.bel.trans (hHeld.mono H6.out.bel.size))) (H6.out.vm.below hHeld) (hEk.out.below hHeld) (by have h1 := H6.out.len; have h2 := H6.out.vm.hs.rs.len; omega)
          rw [eacc'.out] at hac
          refine hac.mono ?_
          rintro e wq ⟨za, zn, zc, ra, rn, rc, fa, fn, fc, rfl, hVM, _, hDf, _, hst, hF1, hF2, _⟩
          obtain rfl : fn = 0 := hDf.len.symm
          have hF1g : 0 < zn → ∀ ad, za = some ad → ad.block ≠ g12 ∧ ad.block ≠ tb + 1 := fun hp ad e => by
            rcases hF1 hp ad e with hz | hz
            · have hz2 := hHeld.size; exact ⟨by omega, by omega⟩
            · exact H6.out.s1 hz.1 ad hz.2
          have hF2g : 0 < rn → ∀ ad, ra = some ad → ad.block ≠ g12 ∧ ad.block ≠ tb + 1 := fun hp ad e => by
            rcases hF2 hp ad e with hz | hz
            · have hz2 := hHeld.size; exact ⟨by omega, by omega⟩
            · exact H6.out.s2 hz.1 ad hz.2
          have hS10a' : 0 < zn → ∀ ad, za = some ad → ad.block ≠ q10 := fun hp ad e => by
            rcases hF1 hp ad e with hz | hz
            · have := hB10.lt; omega
            · have hz2 := H6.out.vm.ds.at_lt hz.1 ad hz.2; omega
          have hS10b' : 0 < rn → ∀ ad, ra = some ad → ad.block ≠ q10 := fun hp ad e => by
            rcases hF2 hp ad e with hz | hz
            · have := hB10.lt; omega
            · have hz2 := H6.out.vm.hs.at_lt hz.1 ad hz.2; omega
          refine hK.out _ _ (hHeld.trans (hst.mono hHeld.size)) (fun hHeld2 => ?_)
          clear hK K
          refine wpAnyH_take (i := 6) (oi := { dst := some 49, op := Op.move (Operand.tmp 55), type := 57, pos := _, after := _, guard := none }) (v := ?_) rfl (by kernel_rfl) (by kernel_rfl) (by kernel_rfl) (fun _ _ _ h => h) (Or.inl ⟨by rfl, ?_⟩) hHeld2 ?_
          rotate_left
          · intro wz hSw
            go_simp
            all_goals (with_reducible rfl)
          try simp only [Act.put, List.setIfInBounds_toArray, List.set_cons_zero, List.set_cons_succ]
          refine wpAnyH_take (i := 7) (oi := { dst := some 56, op := Op.extract (Operand.tmp 49) 0, type := 36, pos := _, after := _, guard := none }) (v := ?_) rfl (by kernel_rfl) (by kernel_rfl) (by kernel_rfl) (fun _ _ _ h => h) (Or.inl ⟨by rfl, ?_⟩) hHeld2 ?_
          rotate_left
          · intro wz hSw
            go_simp
            all_goals (with_reducible rfl)
          try simp only [Act.put, List.setIfInBounds_toArray, List.set_cons_zero, List.set_cons_succ]
          refine wpAnyH_take (i := 8) (oi := { dst := some 57, op := Op.extract (Operand.tmp 49) 1, type := 48, pos := _, after := _, guard := none }) (v := ?_) rfl (by kernel_rfl) (by kernel_rfl) (by kernel_rfl) (fun _ _ _ h => h) (Or.inl ⟨by rfl, ?_⟩) hHeld2 ?_
          rotate_left
          · intro wz hSw
            go_simp
            all_goals (with_reducible rfl)
          try simp only [Act.put, List.setIfInBounds_toArray, List.set_cons_zero, List.set_cons_succ]
          refine wpAnyH_take (i := 9) (oi := { dst := some 58, op := Op.extract (Operand.tmp 49) 2, type := 39, pos := _, after := _, guard := none }) (v := ?_) rfl (by kernel_rfl) (by kernel_rfl) (by kernel_rfl) (fun _ _ _ h => h) (Or.inl ⟨by rfl, ?_⟩) hHeld2 ?_
          rotate_left
          · intro wz hSw
            go_simp
            all_goals (with_reducible rfl)
          try simp only [Act.put, List.setIfInBounds_toArray, List.set_cons_zero, List.set_cons_succ]
          exact Ks1_10_R7 q10 za zn zc ra rn rc fa fc wq (hHeld2) (hB10.below hst hB10.lt) (hL10) (hVM) (hDf) (hF1g) (hF2g) (hS10a') (hS10b')
        case refine_2 =>
          rw [if_pos (by rfl)]
          show Oper.wp _ _ _ _ K _
          go_simp
          refine hK.out _ _ (hHeld.alloc hHeld.size _) (fun hHeld2 => ?_)
          clear hK K
          try simp only [Act.put, List.setIfInBounds_toArray, List.set_cons_zero, List.set_cons_succ]
          generalize hW2 : World.alloc WZ _ = W2
          rw [hW2] at hHeld2
          generalize hq : WZ.heap.size = q11
          have hBn : Blk W2 q11 48 (zrF) := by rw [← hW2, ← hq]; exact Blk.new _ _ _
          have hLn := hHeld.size
          rw [hq] at hLn
          have hB10' : Blk W2 q10 36 (zrV) := by rw [← hW2]; exact hB10.alloc _
          have hN10' := hB10.lt
          rw [hq] at hN10'
          clear hW2 hq
          exact Ks0_10_11_R7 q10 q11 W2 (hHeld2) (hB10') (hL10) (hBn) (hLn) ((by omega))
      case ks0_10_11_R7 =>
        intro q10 q11 WZ hHeld hB10 hL10 hB11 hL11 hN10_11
        refine wpAnyH_ready (rs := [5]) (by kernel_rfl) (by simp) ?_
        refine AllReadyH.cons (o := { dst := some 55, op := Op.call { callee := Callee.value (Operand.func 18), args := #[Operand.tmp 50, Operand.tmp 53, Operand.tmp 54], argTypes := #[36, 31, 46] }, type := 57, pos := _, after := _, guard := none }) rfl (fun K hK => ?_) AllReadyH.nil
        rw [if_pos (by rfl)]
        show Oper.wp _ _ _ _ K _
        go_simp
        go_at_call 18
        have hac := accept_sep2 v xa xn xc ya yn yc ea m ec (es.take m) hA okA _ (HT'.out.below (H6.out.bel.trans (hHeld.mono H6.out.bel.size))) (H6.out.vm.below hHeld) (hEk.out.below hHeld) (by have h1 := H6.out.len; have h2 := H6.out.vm.hs.rs.len; omega)
        rw [eacc'.out] at hac
        refine hac.mono ?_
        rintro e wq ⟨za, zn, zc, ra, rn, rc, fa, fn, fc, rfl, hVM, _, hDf, _, hst, hF1, hF2, _⟩
        obtain rfl : fn = 0 := hDf.len.symm
        have hF1g : 0 < zn → ∀ ad, za = some ad → ad.block ≠ g12 ∧ ad.block ≠ tb + 1 := fun hp ad e => by
          rcases hF1 hp ad e with hz | hz
          · have hz2 := hHeld.size; exact ⟨by omega, by omega⟩
          · exact H6.out.s1 hz.1 ad hz.2
        have hF2g : 0 < rn → ∀ ad, ra = some ad → ad.block ≠ g12 ∧ ad.block ≠ tb + 1 := fun hp ad e => by
          rcases hF2 hp ad e with hz | hz
          · have hz2 := hHeld.size; exact ⟨by omega, by omega⟩
          · exact H6.out.s2 hz.1 ad hz.2
        have hS10a' : 0 < zn → ∀ ad, za = some ad → ad.block ≠ q10 := fun hp ad e => by
          rcases hF1 hp ad e with hz | hz
          · have := hB10.lt; omega
          · have hz2 := H6.out.vm.ds.at_lt hz.1 ad hz.2; omega
        have hS11a' : 0 < zn → ∀ ad, za = some ad → ad.block ≠ q11 := fun hp ad e => by
          rcases hF1 hp ad e with hz | hz
          · have := hB11.lt; omega
          · have hz2 := H6.out.vm.ds.at_lt hz.1 ad hz.2; omega
        have hS10b' : 0 < rn → ∀ ad, ra = some ad → ad.block ≠ q10 := fun hp ad e => by
          rcases hF2 hp ad e with hz | hz
          · have := hB10.lt; omega
          · have hz2 := H6.out.vm.hs.at_lt hz.1 ad hz.2; omega
        have hS11b' : 0 < rn → ∀ ad, ra = some ad → ad.block ≠ q11 := fun hp ad e => by
          rcases hF2 hp ad e with hz | hz
          · have := hB11.lt; omega
          · have hz2 := H6.out.vm.hs.at_lt hz.1 ad hz.2; omega
        refine hK.out _ _ (hHeld.trans (hst.mono hHeld.size)) (fun hHeld2 => ?_)
        clear hK K
        refine wpAnyH_take (i := 6) (oi := { dst := some 49, op := Op.move (Operand.tmp 55), type := 57, pos := _, after := _, guard := none }) (v := ?_) rfl (by kernel_rfl) (by kernel_rfl) (by kernel_rfl) (fun _ _ _ h => h) (Or.inl ⟨by rfl, ?_⟩) hHeld2 ?_
        rotate_left
        · intro wz hSw
          go_simp
          all_goals (with_reducible rfl)
        try simp only [Act.put, List.setIfInBounds_toArray, List.set_cons_zero, List.set_cons_succ]
        refine wpAnyH_take (i := 7) (oi := { dst := some 56, op := Op.extract (Operand.tmp 49) 0, type := 36, pos := _, after := _, guard := none }) (v := ?_) rfl (by kernel_rfl) (by kernel_rfl) (by kernel_rfl) (fun _ _ _ h => h) (Or.inl ⟨by rfl, ?_⟩) hHeld2 ?_
        rotate_left
        · intro wz hSw
          go_simp
          all_goals (with_reducible rfl)
        try simp only [Act.put, List.setIfInBounds_toArray, List.set_cons_zero, List.set_cons_succ]
        refine wpAnyH_take (i := 8) (oi := { dst := some 57, op := Op.extract (Operand.tmp 49) 1, type := 48, pos := _, after := _, guard := none }) (v := ?_) rfl (by kernel_rfl) (by kernel_rfl) (by kernel_rfl) (fun _ _ _ h => h) (Or.inl ⟨by rfl, ?_⟩) hHeld2 ?_
        rotate_left
        · intro wz hSw
          go_simp
          all_goals (with_reducible rfl)
        try simp only [Act.put, List.setIfInBounds_toArray, List.set_cons_zero, List.set_cons_succ]
        refine wpAnyH_take (i := 9) (oi := { dst := some 58, op := Op.extract (Operand.tmp 49) 2, type := 39, pos := _, after := _, guard := none }) (v := ?_) rfl (by kernel_rfl) (by kernel_rfl) (by kernel_rfl) (fun _ _ _ h => h) (Or.inl ⟨by rfl, ?_⟩) hHeld2 ?_
        rotate_left
        · intro wz hSw
          go_simp
          all_goals (with_reducible rfl)
        try simp only [Act.put, List.setIfInBounds_toArray, List.set_cons_zero, List.set_cons_succ]
        exact Ks1_10_11_R7 q10 q11 za zn zc ra rn rc fa fc wq (hHeld2) (hB10.below hst hB10.lt) (hL10) (hB11.below hst hB11.lt) (hL11) (hN10_11) (hVM) (hDf) (hF1g) (hF2g) (hS10a') (hS11a') (hS10b') (hS11b')
      case ks1_R7 =>
        intro za zn zc ra rn rc fa fc WZ hHeld hVM hDf hF1g hF2g
        refine wpAnyH_ready (rs := [10, 11]) (by kernel_rfl) (by simp) ?_
        refine AllReadyH.cons (o := { dst := some 17, op := Op.alloc 36, type := 0, pos := _, after := _, guard := none }) rfl (fun K hK => ?_) (AllReadyH.cons (o := { dst := some 18, op := Op.alloc 48, type := 0, pos := _, after := _, guard := none }) rfl (fun K hK => ?_) AllReadyH.nil)
        case refine_1 =>
          rw [if_pos (by rfl)]
          show Oper.wp _ _ _ _ K _
          go_simp
          refine hK.out _ _ (hHeld.alloc hHeld.size _) (fun hHeld2 => ?_)
          clear hK K
          try simp only [Act.put, List.setIfInBounds_toArray, List.set_cons_zero, List.set_cons_succ]
          generalize hW2 : World.alloc WZ _ = W2
          rw [hW2] at hHeld2
          generalize hq : WZ.heap.size = q10
          have hBn : Blk W2 q10 36 (zrV) := by rw [← hW2, ← hq]; exact Blk.new _ _ _
          have hLn := hHeld.size
          rw [hq] at hLn
          have hVM' : VM W2 v' za zn zc ra rn rc := by rw [← hW2]; exact hVM.below ((Below.refl _ WZ).alloc (Nat.le_refl _) _)
          have hDf' : DS W2 fa 0 fc [] := by rw [← hW2]; exact hDf.below ((Below.refl _ WZ).alloc (Nat.le_refl _) _)
          have hSna : 0 < zn → ∀ ad, za = some ad → ad.block ≠ q10 := fun hp ad e => by have hz := hVM.ds.at_lt hp ad e; rw [hq] at hz; omega
          have hSnb : 0 < rn → ∀ ad, ra = some ad → ad.block ≠ q10 := fun hp ad e => by have hz := hVM.hs.at_lt hp ad e; rw [hq] at hz; omega
          clear hW2 hq
          exact Ks1_10_R7 q10 za zn zc ra rn rc fa fc W2 (hHeld2) (hBn) (hLn) (hVM') (hDf') (hF1g) (hF2g) (hSna) (hSnb)
        case refine_2 =>
          rw [if_pos (by rfl)]
          show Oper.wp _ _ _ _ K _
          go_simp
          refine hK.out _ _ (hHeld.alloc hHeld.size _) (fun hHeld2 => ?_)
          clear hK K
          try simp only [Act.put, List.setIfInBounds_toArray, List.set_cons_zero, List.set_cons_succ]
          generalize hW2 : World.alloc WZ _ = W2
          rw [hW2] at hHeld2
          generalize hq : WZ.heap.size = q11
          have hBn : Blk W2 q11 48 (zrF) := by rw [← hW2, ← hq]; exact Blk.new _ _ _
          have hLn := hHeld.size
          rw [hq] at hLn
          have hVM' : VM W2 v' za zn zc ra rn rc := by rw [← hW2]; exact hVM.below ((Below.refl _ WZ).alloc (Nat.le_refl _) _)
          have hDf' : DS W2 fa 0 fc [] := by rw [← hW2]; exact hDf.below ((Below.refl _ WZ).alloc (Nat.le_refl _) _)
          have hSna : 0 < zn → ∀ ad, za = some ad → ad.block ≠ q11 := fun hp ad e => by have hz := hVM.ds.at_lt hp ad e; rw [hq] at hz; omega
          have hSnb : 0 < rn → ∀ ad, ra = some ad → ad.block ≠ q11 := fun hp ad e => by have hz := hVM.hs.at_lt hp ad e; rw [hq] at hz; omega
          clear hW2 hq
          exact Ks1_11_R7 q11 za zn zc ra rn rc fa fc W2 (hHeld2) (hBn) (hLn) (hVM') (hDf') (hF1g) (hF2g) (hSna) (hSnb)
      case ks1_11_R7 =>
        intro q11 za zn zc ra rn rc fa fc WZ hHeld hB11 hL11 hVM hDf hF1g hF2g hS11a hS11b
        refine wpAnyH_ready (rs := [10]) (by kernel_rfl) (by simp) ?_
        refine AllReadyH.cons (o := { dst := some 17, op := Op.alloc 36, type := 0, pos := _, after := _, guard := none }) rfl (fun K hK => ?_) AllReadyH.nil
        rw [if_pos (by rfl)]
        show Oper.wp _ _ _ _ K _
        go_simp
        refine hK.out _ _ (hHeld.alloc hHeld.size _) (fun hHeld2 => ?_)
        clear hK K
        try simp only [Act.put, List.setIfInBounds_toArray, List.set_cons_zero, List.set_cons_succ]
        generalize hW2 : World.alloc WZ _ = W2
        rw [hW2] at hHeld2
        generalize hq : WZ.heap.size = q10
        have hBn : Blk W2 q10 36 (zrV) := by rw [← hW2, ← hq]; exact Blk.new _ _ _
        have hLn := hHeld.size
        rw [hq] at hLn
        have hB11' : Blk W2 q11 48 (zrF) := by rw [← hW2]; exact hB11.alloc _
        have hN11' := hB11.lt
        rw [hq] at hN11'
        have hVM' : VM W2 v' za zn zc ra rn rc := by rw [← hW2]; exact hVM.below ((Below.refl _ WZ).alloc (Nat.le_refl _) _)
        have hDf' : DS W2 fa 0 fc [] := by rw [← hW2]; exact hDf.below ((Below.refl _ WZ).alloc (Nat.le_refl _) _)
        have hSna : 0 < zn → ∀ ad, za = some ad → ad.block ≠ q10 := fun hp ad e => by have hz := hVM.ds.at_lt hp ad e; rw [hq] at hz; omega
        have hSnb : 0 < rn → ∀ ad, ra = some ad → ad.block ≠ q10 := fun hp ad e => by have hz := hVM.hs.at_lt hp ad e; rw [hq] at hz; omega
        clear hW2 hq
        exact Ks1_10_11_R7 q10 q11 za zn zc ra rn rc fa fc W2 (hHeld2) (hBn) (hLn) (hB11') (hL11) ((by omega)) (hVM') (hDf') (hF1g) (hF2g) (hSna) (hS11a) (hSnb) (hS11b)
      case ks1_10_R7 =>
        intro q10 za zn zc ra rn rc fa fc WZ hHeld hB10 hL10 hVM hDf hF1g hF2g hS10a hS10b
        refine wpAnyH_ready (rs := [11]) (by kernel_rfl) (by simp) ?_
        refine AllReadyH.cons (o := { dst := some 18, op := Op.alloc 48, type := 0, pos := _, after := _, guard := none }) rfl (fun K hK => ?_) AllReadyH.nil
        rw [if_pos (by rfl)]
        show Oper.wp _ _ _ _ K _
        go_simp
        refine hK.out _ _ (hHeld.alloc hHeld.size _) (fun hHeld2 => ?_)
        clear hK K
        try simp only [Act.put, List.setIfInBounds_toArray, List.set_cons_zero, List.set_cons_succ]
        generalize hW2 : World.alloc WZ _ = W2
        rw [hW2] at hHeld2
        generalize hq : WZ.heap.size = q11
        have hBn : Blk W2 q11 48 (zrF) := by rw [← hW2, ← hq]; exact Blk.new _ _ _
        have hLn := hHeld.size
        rw [hq] at hLn
        have hB10' : Blk W2 q10 36 (zrV) := by rw [← hW2]; exact hB10.alloc _
        have hN10' := hB10.lt
        rw [hq] at hN10'
        have hVM' : VM W2 v' za zn zc ra rn rc := by rw [← hW2]; exact hVM.below ((Below.refl _ WZ).alloc (Nat.le_refl _) _)
        have hDf' : DS W2 fa 0 fc [] := by rw [← hW2]; exact hDf.below ((Below.refl _ WZ).alloc (Nat.le_refl _) _)
        have hSna : 0 < zn → ∀ ad, za = some ad → ad.block ≠ q11 := fun hp ad e => by have hz := hVM.ds.at_lt hp ad e; rw [hq] at hz; omega
        have hSnb : 0 < rn → ∀ ad, ra = some ad → ad.block ≠ q11 := fun hp ad e => by have hz := hVM.hs.at_lt hp ad e; rw [hq] at hz; omega
        clear hW2 hq
        exact Ks1_10_11_R7 q10 q11 za zn zc ra rn rc fa fc W2 (hHeld2) (hB10') (hL10) (hBn) (hLn) ((by omega)) (hVM') (hDf') (hF1g) (hF2g) (hS10a) (hSna) (hS10b) (hSnb)
      case ks1_10_11_R7 =>
        intro q10 q11 za zn zc ra rn rc fa fc WZ hHeld hB10 hL10 hB11 hL11 hN10_11 hVM hDf hF1g hF2g hS10a hS11a hS10b hS11b
        refine wpAnyH_ready (rs := [12]) (by kernel_rfl) (by simp) ?_
        refine AllReadyH.cons (o := { dst := none, op := Op.store 36 (Operand.tmp 17) (Operand.tmp 56), type := 0, pos := _, after := _, guard := none }) rfl (fun K hK => ?_) AllReadyH.nil
        obtain ⟨W3, hQ⟩ := put_row (ty := 36) hB10 (x := [.int .i64 v'.st, .int .i64 v'.fo, .int .i64 v'.pub, .slice za zn zc, .slice ra rn rc]) (rfl) (sizeVw) (view_one _ _ _ _ _ _ _ _ _)
        have hHeld2 := below_grown hHeld hQ.grown hHeld.size hL10
        rw [if_pos (by rfl)]
        refine wp_store_mid 36 _ _ rfl q10 0 ([.int .i64 v'.st, .int .i64 v'.fo, .int .i64 v'.pub, .slice za zn zc, .slice ra rn rc] : List Value).toArray (by rfl) (by rfl) hQ.there hQ.info (by simpa using hQ.one) ?_
        generalize hWq : World.setCells _ _ _ _ = Wa
        obtain rfl : W3 = Wa := by rw [← hWq]; exact hQ.eq
        clear hWq
        refine hK.out _ _ hHeld2 (fun _ => ?_)
        clear hK K
        try simp only [Act.put]
        exact Ks2_10_11_R7 q10 q11 za zn zc ra rn rc fa fc W3 (hHeld2) (hQ.blk) (hL10) (hB11.grown hQ.grown (fun e => by injection e with e; exact hN10_11 e.symm)) (hL11) (hN10_11) (hVM.grown hQ.grown hS10a hS10b) (hDf.grown hQ.grown (fun h => absurd h (Nat.lt_irrefl 0))) (hF1g) (hF2g) (hS10a) (hS11a) (hS10b) (hS11b)
      case ks2_10_11_R7 =>
        intro q10 q11 za zn zc ra rn rc fa fc WZ hHeld hB10 hL10 hB11 hL11 hN10_11 hVM hDf hF1g hF2g hS10a hS11a hS10b hS11b
        refine wpAnyH_ready (rs := [13]) (by kernel_rfl) (by simp) ?_
        refine AllReadyH.cons (o := { dst := none, op := Op.store 48 (Operand.tmp 18) (Operand.tmp 57), type := 0, pos := _, after := _, guard := none }) rfl (fun K hK => ?_) AllReadyH.nil
        obtain ⟨W3, hQ⟩ := put_row (ty := 48) hB11 (x := forkC zeroF fa 0 fc) (by rw [forkC_len okF0]; rfl) (by rw [forkC_len okF0]; exact sizeF) (forkC_one okF0 _ _ _)
        have hHeld2 := below_grown hHeld hQ.grown hHeld.size hL11
        rw [if_pos (by rfl)]
        refine wp_store_mid 48 _ _ rfl q11 0 (forkC zeroF fa 0 fc : List Value).toArray (by rfl) (by rfl) hQ.there hQ.info (by simpa using hQ.one) ?_
        generalize hWq : World.setCells _ _ _ _ = Wa
        obtain rfl : W3 = Wa := by rw [← hWq]; exact hQ.eq
        clear hWq
        refine hK.out _ _ hHeld2 (fun _ => ?_)
        clear hK K
        try simp only [Act.put]
        refine wpAnyH_take (i := 14) (oi := { dst := some 19, op := Op.assign (Operand.tmp 58), type := 39, pos := _, after := _, guard := none }) (v := ?_) rfl (by kernel_rfl) (by kernel_rfl) (by kernel_rfl) (fun _ _ _ h => h) (Or.inl ⟨by rfl, ?_⟩) hHeld2 ?_
        rotate_left
        · intro wz hSw
          go_simp
          all_goals (with_reducible rfl)
        try simp only [Act.put, List.setIfInBounds_toArray, List.set_cons_zero, List.set_cons_succ]
        refine wpAnyH_done (by kernel_rfl) ?_ _
        exact KfinR7 q10 q11 za zn zc ra rn rc fa fc W3 (hHeld2) (hB10.grown hQ.grown (fun e => by injection e with e; exact hN10_11 e)) (hL10) (hQ.blk) (hL11) (hN10_11) (hVM.grown hQ.grown hS11a hS11b) (hDf.grown hQ.grown (fun h => absurd h (Nat.lt_irrefl 0))) (hF1g) (hF2g) (hS10a) (hS11a) (hS10b) (hS11b)
      case kfinR7 =>
      intro g17 g18 za zn zc ra rn rc fa fc w7 hst hb17 hl17 hb18 hl18 hn78 hvm hdf hg1 hg2 hsa hsb hsc hsd
      have H7 := Lib.hid (H6.out.below hst)
      have hB17 := Lib.hid hb17
      have hB18 := Lib.hid hb18
      have hMV := Lib.hid hvm
      have hDF := Lib.hid hdf
      have hs1 := Lib.hid hg1
      have hs2 := Lib.hid hg2
      clear hst hb17 hl17 hb18 hl18 hn78 hvm hdf hg1 hg2 hsa hsb hsc hsd hsl v0 v1 v2 v3 v4
      have hsf := Lib.hid (fun W H => sameF_zero fa fc W H)
      have hfr := Lib.hid hB18.out.range
      have hfi := infoF okF0 fa 0 fc
      generalize forkC zeroF fa 0 fc = rf at *
      go_wp2_with (first
        | (refine wpList_load_g (by rfl) 48 _ (by rfl) g18 0 (by rfl) rf _ hfr.out Tryd.underlying48 (by rfl) hfi.out ?_))
      refine (hsf.out _ hDF.out).mono ?_
      rintro e w8 ⟨rfl, hst⟩
      clear hsf hfr hfi
      have H8 := Lib.hid (H7.out.below hst)
      replace hB17 := Lib.hid (hB17.out.below hst hB17.out.lt)
      replace hMV := Lib.hid (hMV.out.below hst)
      clear hst H7 hB18 hDF
      obtain ⟨w9, hQ⟩ := put_row (ty := 36) H8.out.bV (x := [.int .i64 v'.st, .int .i64 v'.fo, .int .i64 v'.pub, .slice za zn zc, .slice ra rn rc]) rfl sizeVw (view_one _ _ _ _ _ _ _ _ _)
      have hQ' := Lib.hid hQ
      have hNew : Hid (ShB w tb g12 id pv fo q P v' (mostN tn (cuts.take (k + 1))) (k + 1) za zn zc ra rn rc w9) :=
        ⟨H8.out.bS.grown hQ.grown (fun e => by injection e with e; omega), H8.out.bZ.grown hQ.grown (fun e => by injection e with e; omega), hQ.blk, hMV.out.grown hQ.grown (fun hp ad e => (hs1.out hp ad e).1) (fun hp ad e => (hs2.out hp ad e).1), honV'.out, Nat.le_trans hl'.out (Nat.succ_le_succ H8.out.len), hs1.out, hs2.out, below_grown H8.out.bel hQ.grown H8.out.bel.size (by have h1 := htb.out; omega)⟩
      clear hQ
      have n0 := hB17.out.at_ (i := 0) rfl
      have n1 := hB17.out.at_ (i := 1) rfl
      have n2 := hB17.out.at_ (i := 2) rfl
      have n3 := hB17.out.at_ (i := 3) rfl
      have n4 := hB17.out.at_ (i := 4) rfl
      go_wp2_with (first
        | (refine wpList_store_mid (by rfl) 36 (.tmp 12) (.tmp 72) (by rfl) g12 0 ([.int .i64 v'.st, .int .i64 v'.fo, .int .i64 v'.pub, .slice za zn zc, .slice ra rn rc] : List Value).toArray (by rfl) (by rfl) hQ'.out.there hQ'.out.info (by simpa using hQ'.out.one) ?_
           generalize hWq : World.setCells _ _ _ _ = Wa
           obtain rfl : w9 = Wa := by rw [← hWq]; exact hQ'.out.eq
           clear hWq))
      go_roundw
      case rel => exact ⟨k + 1, v', za, zn, zc, ra, rn, rc, by omega, by go_num, hNew⟩
      case measure => simp [intOf]; omega
    · obtain rfl : cn = k := by omega
      have hmo : mostN tn (cuts.take cn) = mostN tn cuts := by rw [List.take_of_length_le (Nat.le_of_eq lcl.out)]
      rw [hmo] at H
      obtain ⟨w9, hQ⟩ := put_row (ty := 36) H.out.bZ (x := [.int .i64 v.st, .int .i64 v.fo, .int .i64 v.pub, .slice xa xn xc, .slice ya yn yc]) rfl sizeVw (view_one _ _ _ _ _ _ _ _ _)
      have hfin : Hid (X (.returned (.tuple #[.agg #[.int .i64 v.st, .int .i64 v.fo, .int .i64 v.pub, .slice xa xn xc, .slice ya yn yc], .bool true])) w9) := by
        rw [hX'.out]
        exact ⟨v, xa, xn, xc, ya, yn, yc, rfl, H.out.vm.grown hQ.grown (fun hp ad e => (H.out.s1 hp ad e).2) (fun hp ad e => (H.out.s2 hp ad e).2), H.out.hon, below_grown H.out.bel hQ.grown H.out.bel.size (by have h1 := htb.out; omega)⟩
      have hblk := Lib.hid hQ.blk
      have hQ' := Lib.hid hQ
      clear hQ
      have n0 := H.out.bV.at_ (i := 0) rfl
      have n1 := H.out.bV.at_ (i := 1) rfl
      have n2 := H.out.bV.at_ (i := 2) rfl
      have n3 := H.out.bV.at_ (i := 3) rfl
      have n4 := H.out.bV.at_ (i := 4) rfl
      go_wp2_with (first
        | (refine wpList_store_mid (by rfl) 36 (.tmp 10) (.tmp 73) (by rfl) (tb + 1) 0 ([.int .i64 v.st, .int .i64 v.fo, .int .i64 v.pub, .slice xa xn xc, .slice ya yn yc] : List Value).toArray (by rfl) (by rfl) hQ'.out.there hQ'.out.info (by simpa using hQ'.out.one) ?_
           generalize hWq : World.setCells _ _ _ _ = Wa
           obtain rfl : w9 = Wa := by rw [← hWq]; exact hQ'.out.eq
           clear hWq))
      exact ret_cell_tmp (fn := Tryd.f11) (p := 10) (u := 11) rfl hblk.out Tryd.underlying36 rfl sizeVw rfl rfl rfl hfin.out
end Go.Proofs.YtiionehcmoginaaDoor
