/- the reference 35: nodes, Digest -/
import Derived.Test.YthhblcbnnmoojaaGreatDoorFb
import Derived.Test.YthhblcbnnmoojaaGreatDoorDiE
import Derived.Test.YthhblcbnnmoojaaGreatDoorDrQ
import Derived.Laws.MakeOwn
import Derived.Test.YthhblcbnnmoojaaGreatDoorDrP
import Derived.Test.YthhblcbnnmoojaaGreatDoorRa
namespace Go.Proofs.YthhblcbnnmoojaaGreatDoor
open Go.RowKit Go.Mem
open Go.Dr (Lst Rt)

theorem num8_length (x : Int) : (Go.Dr.num8 x).length = 8 := Sha.be_length _ _
theorem r5by_any (x : Int) (w : World) : Calls Tryz.prog 46 #[.int .i64 x] w (fun e w' => ∃ v, e = .returned v ∧ OwnY w.heap.size w' v (Go.Dr.num8 x) ∧ Below w.heap.size w w') := r5bytes_any x w
def leafTag (em : Bool) : ByteArray := if em then ⟨#[101, 109, 112, 116, 121]⟩ else ⟨#[108, 105, 115, 116, 105, 110, 103]⟩
def leafBs (x : Lst) (em : Bool) : List Nat := if em then Go.Dr.num8 x.dev else Go.Dr.num8 x.dev ++ Go.Dr.num8 x.ver ++ Go.Dr.num8 x.leaf ++ Go.Dr.num8 x.vers ++ [if x.gone then 1 else 0]
def LeafPost (x : Lst) (em : Bool) (w : World) (e : Ending) (w' : World) : Prop := ∃ v, e = .returned (.tuple #[.string (leafTag em), v]) ∧ OwnY w.heap.size w' v (leafBs x em) ∧ Below w.heap.size w w'

set_option maxRecDepth 20000 in
set_option maxHeartbeats 4000000 in
theorem r35leaft_any (x : Lst) (em : Bool) (w : World) : Calls Tryz.prog 143 #[.agg (gC x).toArray, .bool em] w (LeafPost x em w) := by
  obtain ⟨X, hX⟩ : ∃ X, X = LeafPost x em w := ⟨_, rfl⟩
  rw [← hX]
  obtain ⟨W0, hW0⟩ : ∃ W, Hid (w.alloc (.cells (gC x).toArray 36) = W) := ⟨_, rfl⟩
  have hB : Hid (Blk W0 w.heap.size 36 (gC x)) := by rw [← hW0.out]; exact Blk.new w 36 (gC x)
  have hb : Hid (Below w.heap.size w W0) := by rw [← hW0.out]; exact (Below.refl _ w).alloc (Nat.le_refl _) (.cells (gC x).toArray 36)
  have hfin : Hid (∀ v W, OwnY W0.heap.size W v (leafBs x em) → Below W0.heap.size W0 W → X (.returned (.tuple #[.string (leafTag em), v])) W) := fun v W h1 h2 => by rw [hX]; exact ⟨_, rfl, h1.imp hb.out.size, hb.out.trans (h2.mono hb.out.size)⟩
  clear hX hb
  obtain ⟨xb, hxb⟩ : ∃ b, Hid (w.heap.size = b) := ⟨_, rfl⟩
  have y0 := hB.out.at_ (i := 0) (x := .int .i64 x.dev) rfl
  go_enter Tryz.func143, Tryz.ntmps143
  rw [hxb.out] at hB y0
  go_wp2_with (first
    | (rw [hW0.out, hxb.out]))
  refine (r5by_any x.dev _).mono ?_
  rintro e w1 ⟨v1, rfl, ho1', hb1'⟩
  have ho1 := Lib.hid ho1'; have hb1 := Lib.hid hb1'
  clear y0 ho1' hb1'
  cases em with
  | true =>
    have hend := Lib.hid (hfin.out _ _ ho1.out hb1.out)
    go_wp2_with fail
    exact hend.out
  | false =>
    have y1 := (hB.out.below hb1.out hB.out.lt).at_ (i := 1) (x := .int .i64 x.ver) rfl
    go_wp2_with fail
    refine (r5by_any x.ver _).mono ?_
    rintro e w1a ⟨u1a, rfl, hoa, hba⟩
    obtain ⟨v2, w2, hr, ho', hb'⟩ := append_own (ho1.out.below (hba.mono (Nat.le_refl _))) (Nat.le_trans hb1.out.size hba.size) (hb1.out.trans (hba.mono hb1.out.size)) hoa (by simp only [num8_length]; omega)
    have ho2 := Lib.hid ho'; have hb2 := Lib.hid hb'; have hr1 := Lib.hid hr
    clear y1 ho' hb' hr hoa hba
    have y2 := (hB.out.below hb2.out hB.out.lt).at_ (i := 2) (x := .int .i64 x.leaf) rfl
    go_wp2_with (first
      | (at_builtin; refine Lib.wpList_append_run _ rfl _ _ _ _ rfl _ _ rfl rfl _ _ (hr1.out _) ?_))
    refine (r5by_any x.leaf _).mono ?_
    rintro e w2a ⟨u2a, rfl, hoa, hba⟩
    obtain ⟨v3, w3, hr, ho', hb'⟩ := append_own (ho2.out.below (hba.mono (Nat.le_refl _))) (Nat.le_trans hb2.out.size hba.size) (hb2.out.trans (hba.mono hb2.out.size)) hoa (by simp only [List.length_append, num8_length]; omega)
    have ho3 := Lib.hid ho'; have hb3 := Lib.hid hb'; have hr2 := Lib.hid hr
    clear y2 ho' hb' hr hoa hba
    have y3 := (hB.out.below hb3.out hB.out.lt).at_ (i := 3) (x := .int .i64 x.vers) rfl
    go_wp2_with (first
      | (at_builtin; refine Lib.wpList_append_run _ rfl _ _ _ _ rfl _ _ rfl rfl _ _ (hr2.out _) ?_))
    refine (r5by_any x.vers _).mono ?_
    rintro e w3a ⟨u3a, rfl, hoa, hba⟩
    obtain ⟨v4, w4, hr, ho', hb'⟩ := append_own (ho3.out.below (hba.mono (Nat.le_refl _))) (Nat.le_trans hb3.out.size hba.size) (hb3.out.trans (hba.mono hb3.out.size)) hoa (by simp only [List.length_append, num8_length]; omega)
    have ho4 := Lib.hid ho'; have hb4 := Lib.hid hb'; have hr3 := Lib.hid hr
    clear y3 ho' hb' hr hoa hba
    have y4 := (hB.out.below hb4.out hB.out.lt).at_ (i := 4) (x := .bool x.gone) rfl
    obtain ⟨g, hg⟩ : ∃ g, Hid (x.gone = g) := ⟨_, rfl⟩
    rw [hg.out] at y4
    cases g with
    | true =>
      obtain ⟨v9, w9, hr, ho', hb'⟩ := append_b1L (x := 1) ho4.out hb4.out.size hb4.out (by decide) (by simp only [List.length_append, num8_length]; omega)
      have hrl := Lib.hid hr
      have hend := Lib.hid (hfin.out _ _ (by unfold leafBs; rw [if_neg (by decide), hg.out]; exact ho') hb')
      clear ho' hb' hr
      go_wp2_with (first
        | (at_builtin; refine Lib.wpList_append_run _ rfl _ _ _ _ rfl _ _ rfl rfl _ _ (hr3.out _) ?_)
        | (at_builtin; refine Lib.wpList_append_run _ rfl _ _ _ _ rfl _ _ rfl rfl _ _ (hrl.out _) ?_))
      exact hend.out
    | false =>
      obtain ⟨v9, w9, hr, ho', hb'⟩ := append_b1L (x := 0) ho4.out hb4.out.size hb4.out (by decide) (by simp only [List.length_append, num8_length]; omega)
      have hrl := Lib.hid hr
      have hend := Lib.hid (hfin.out _ _ (by unfold leafBs; rw [if_neg (by decide), hg.out]; exact ho') hb')
      clear ho' hb' hr
      go_wp2_with (first
        | (at_builtin; refine Lib.wpList_append_run _ rfl _ _ _ _ rfl _ _ rfl rfl _ _ (hr3.out _) ?_)
        | (at_builtin; refine Lib.wpList_append_run _ rfl _ _ _ _ rfl _ _ rfl rfl _ _ (hrl.out _) ?_))
      exact hend.out

theorem leafBs_length (x : Lst) (em : Bool) : (leafBs x em).length ≤ 33 := by
  unfold leafBs; split <;> simp only [List.length_append, num8_length, List.length_cons, List.length_nil] <;> omega
theorem leaf_tagged (x : Lst) (em : Bool) : Sha.tagged (octets (leafTag em)) (leafBs x em) = Go.Dr.leafOf x em := by cases em <;> rfl

set_option maxRecDepth 20000 in
set_option maxHeartbeats 2000000 in
theorem r35leaf_any (x : Lst) (em : Bool) (w : World) : Calls Tryz.prog 115 #[.agg (gC x).toArray, .bool em] w (DigPost (Go.Dr.leafOf x em) w) := by
  obtain ⟨X, hX⟩ : ∃ X, Hid (X = DigPost (Go.Dr.leafOf x em) w) := ⟨_, rfl⟩
  rw [← hX.out]
  obtain ⟨tb, htb⟩ : ∃ tb, Hid (w.heap.size = tb) := ⟨_, rfl⟩
  have hlt := Lib.hid (fun W => r35leaft_any x em W)
  obtain ⟨r, hr⟩ : ∃ r, Hid (gC x = r) := ⟨_, rfl⟩
  have hir : Hid ((Tryz.prog.info? 36).map (·.size) = some r.length) := by show _ = _; rw [← hr.out]; exact sizeG
  have hsz : Hid ((leafTag em).size ≤ 140737488355000) := by show _ ≤ _; cases em <;> decide
  rw [hr.out] at hlt ⊢
  go_enter Tryz.func115, Tryz.ntmps115
  go_upto_region 1 with fail
  rw [htb.out]
  generalize hW : World.alloc _ _ = W
  have hB : Hid (Blk W tb 36 r) := by rw [← hW, ← htb.out]; exact (Blk.new w _ r).alloc _
  have hD : Hid (Blk W (tb + 1) 23 (bv (List.replicate 32 0))) := by
    rw [← hW, ← htb.out]
    have := zero_dig (w.alloc (.cells r.toArray 36))
    rw [World.size_alloc] at this
    exact this
  have hb : Hid (Below w.heap.size w W) := by rw [← hW]; exact ((Below.refl _ w).alloc (Nat.le_refl _) _).alloc (by simp) _
  have hrg := Lib.hid hB.out.range
  clear hW
  go_wp2_with (first
    | (refine wpList_load_mid (by rfl) 36 (.tmp 2) rfl tb 0 rfl r _ hrg.out Tryz.underlying36 rfl hir.out ?_))
  refine (hlt.out W).mono ?_
  rintro e W1 ⟨v, rfl, ho, hb1⟩
  obtain ⟨a1, c1, rfl, hS1'⟩ := BS.own ho.1 ho.2
  have hS1 := Lib.hid hS1'
  have hD1 := Lib.hid (hD.out.below hb1 hD.out.lt)
  have hb2 := Lib.hid (hb.out.trans (hb1.mono hb.out.size))
  clear ho hb1 hS1' hD hb hB hrg
  go_wp2_with fail
  refine (r2tagged_any (leafTag em) hsz.out _ _ _ _ W1 (bw_of hS1.out) (by have := leafBs_length x em; omega)).mono ?_
  rintro e W2 ⟨rfl, hb3⟩
  rw [leaf_tagged]
  obtain ⟨D, hDD⟩ : ∃ D, Hid (bv (Go.Dr.leafOf x em) = D) := ⟨_, rfl⟩
  have hDl : D.length = 32 := by rw [← hDD.out, bv_length, ← leaf_tagged]; exact Sha.tagged_length _ _
  have hD1' : ∀ u ∈ D, u.oneCell' = true := by rw [← hDD.out]; exact bv_one _
  rw [hDD.out]
  have hP := Lib.hid (Put.mk' (ty := 23) (RES := D) (hD1.out.below hb3 hD1.out.lt) (by rw [hDl]; rfl) (by rw [hDl]; exact size35) hD1')
  have hend : Hid (X (.returned (.agg D.toArray)) (W2.setCells (tb + 1) 0 D)) := by
    show X _ _
    rw [hX.out, ← hDD.out]; exact ⟨rfl, by rw [hDD.out]; exact below_grown (hb2.out.trans (hb3.mono hb2.out.size)) hP.out.grw (Nat.le_trans hb2.out.size hb3.size) (by have := htb.out; omega)⟩
  clear hDl hD1' hb3 hD1 hb2
  go_wp2_with (first
    | (refine wpList_store_mid (by rfl) 23 (.tmp 4) (.tmp 15) (by rfl) (tb + 1) 0 D.toArray (by rfl) (by rfl) hP.out.th hP.out.inf hP.out.one ?_))
  exact bodyPost_ret (results_cell_row rfl _ _ (tb + 1) 23 D.toArray (0, 0) _ rfl hP.out.blk Tryz.underlying23 rfl hP.out.inf) rfl hend.out

/-- the boxes of Pair. -/
def PrX (w : World) (tb : Nat) (a c : List Nat) (wz : World) : Prop := Blk wz tb 23 (bv a) ∧ Blk wz (tb + 1) 23 (bv c) ∧ Blk wz (tb + 1 + 1) 23 (bv (List.replicate 32 0)) ∧ Below w.heap.size w wz ∧ w.heap.size ≤ tb
section
variable {w wz wq : World} {tb : Nat} {a c : List Nat}
theorem PrX.next (hb : Below wz.heap.size wz wq) (h : PrX w tb a c wz) : PrX w tb a c wq := ⟨h.1.below hb h.1.lt, h.2.1.below hb h.2.1.lt, h.2.2.1.below hb h.2.2.1.lt, h.2.2.2.1.trans (hb.mono h.2.2.2.1.size), h.2.2.2.2⟩
theorem PrX.drew (h : PrX w tb a c wz) : PrX w tb a c wz.drew := h.next ((Below.refl _ _).drew)
end
theorem whole32 {W : World} {b : Nat} {u : List Nat} (hu : u.length = 32) (hq : ∀ q ∈ u, q < 256) (h : Blk W b 23 (bv u)) : BS W (some ⟨b, 0, none⟩) 32 32 u := by
  have := Blk.bs (pre := []) (post := []) (l := u) (c := 32) (by simpa using h) (by omega) (by omega) hq
  rwa [hu] at this
theorem empty_bytes (W : World) : (Instr.buildSlice 74 0 #[]).run Tryz.prog W = .ok (.slice (some ⟨W.heap.size, 0, none⟩) 0 0) (W.alloc (.cells #[] 5)) := by kernel_rfl
set_option maxRecDepth 20000 in
set_option maxHeartbeats 2000000 in
theorem r35pair_any (a c : List Nat) (ha : a.length = 32) (hc : c.length = 32) (hal : ∀ u ∈ a, u < 256) (hcl : ∀ u ∈ c, u < 256) (w : World) :
    Calls Tryz.prog 116 #[.agg (bv a).toArray, .agg (bv c).toArray] w (DigPost (Go.Dr.pairD a c) w) := by
  obtain ⟨X, hX⟩ : ∃ X, Hid (X = DigPost (Go.Dr.pairD a c) w) := ⟨_, rfl⟩
  rw [← hX.out]
  have ha' := Lib.hid ha; have hc' := Lib.hid hc; have hal' := Lib.hid hal; have hcl' := Lib.hid hcl
  clear ha hc hal hcl
  obtain ⟨tb, htb⟩ : ∃ tb, Hid (w.heap.size = tb) := ⟨_, rfl⟩
  go_enter Tryz.func116, Tryz.ntmps116
  go_upto_region 1 with fail
  rw [htb.out]
  generalize hW : World.alloc _ _ = W
  have hM : PrX w tb a c W := by
    rw [← hW, ← htb.out]
    refine ⟨((Blk.new w _ (bv a)).alloc _).alloc _, ?_, ?_, (((Below.refl _ w).alloc (Nat.le_refl _) _).alloc (by simp) _).alloc (by simp; omega) _, Nat.le_refl _⟩
    · have := Blk.new (w.alloc (.cells (bv a).toArray 23)) 23 (bv c)
      rw [World.size_alloc] at this
      exact this.alloc _
    · have := zero_dig ((w.alloc (.cells (bv a).toArray 23)).alloc (.cells (bv c).toArray 23))
      rw [World.size_alloc, World.size_alloc] at this
      exact this
  clear hW
  refine wp_region_held_drew (S := fun wz => True) (by kernel_rfl) (trivial) (fun hHeld => ?_)
  have hM0 := hM.drew
  generalize W.drew = W0 at *
  clear hM
  refine wpAnyH_take (i := 1) (oi := { dst := some 6, op := Op.slice 23 (Operand.tmp 2) none none none, type := 74, pos := "ref.go:60", after := #[], guard := none }) (v := ?_) rfl (by kernel_rfl) (by kernel_rfl) (by kernel_rfl) (fun _ _ _ h => h) (Or.inl ⟨by rfl, ?_⟩) hHeld ?_
  rotate_left
  · intro wz hSw
    go_simp
    all_goals (with_reducible rfl)
  try simp only [Act.put, List.setIfInBounds_toArray, List.set_cons_zero, List.set_cons_succ]
  refine wpAnyH_take (i := 3) (oi := { dst := some 8, op := Op.slice 23 (Operand.tmp 3) none none none, type := 74, pos := "ref.go:60", after := #[], guard := none }) (v := ?_) rfl (by kernel_rfl) (by kernel_rfl) (by kernel_rfl) (fun _ _ _ h => h) (Or.inl ⟨by rfl, ?_⟩) hHeld ?_
  rotate_left
  · intro wz hSw
    go_simp
    all_goals (with_reducible rfl)
  try simp only [Act.put, List.setIfInBounds_toArray, List.set_cons_zero, List.set_cons_succ]
  refine wpAnyH_ready (rs := [0]) (by kernel_rfl) (by simp) ?_
  refine AllReadyH.cons (o := { dst := some 5, op := Op.buildSlice 74 0 #[], type := 74, pos := "ref.go:60", after := #[], guard := none }) rfl (fun K hK => ?_) AllReadyH.nil
  rw [if_pos (by rfl)]
  refine wp_buildSlice_run 74 0 #[] rfl #[] (by simp) (empty_bytes W0) ?_
  refine hK.out _ _ trivial (fun hHeld => ?_)
  clear hK K
  try simp only [Act.put, List.setIfInBounds_toArray, List.set_cons_zero, List.set_cons_succ]
  refine wpAnyH_ready (rs := [2]) (by kernel_rfl) (by simp) ?_
  refine AllReadyH.cons (o := { dst := some 7, op := Op.call { callee := Callee.builtin Builtin.append, args := #[Operand.tmp 5, Operand.tmp 6], argTypes := #[74, 74] }, type := 74, pos := "ref.go:60", after := #[{ on := 0, ground := Ground.data }, { on := 1, ground := Ground.data }], guard := none }) rfl (fun K hK => ?_) AllReadyH.nil
  rw [if_pos (by rfl)]
  obtain ⟨v1, W1, hr1, ho1, hb1⟩ := append_byL (own_new W0) (by simp) ((Below.refl _ W0).alloc (Nat.le_refl _) (.cells #[] 5)) (bw_of (whole32 ha'.out hal'.out (hM0.1.alloc (.cells #[] 5)))) (by simp)
  rw [List.nil_append] at ho1
  refine wp_append_run rfl _ _ (by rfl) (by rfl) (hr1 _) ?_
  refine hK.out _ _ trivial (fun hHeld => ?_)
  clear hr1
  clear hK K
  try simp only [Act.put, List.setIfInBounds_toArray, List.set_cons_zero, List.set_cons_succ]
  refine wpAnyH_ready (rs := [4]) (by kernel_rfl) (by simp) ?_
  refine AllReadyH.cons (o := { dst := some 9, op := Op.call { callee := Callee.builtin Builtin.append, args := #[Operand.tmp 7, Operand.tmp 8], argTypes := #[74, 74] }, type := 74, pos := "ref.go:60", after := #[{ on := 2, ground := Ground.data }, { on := 3, ground := Ground.data }, { on := 2, ground := Ground.chain }], guard := none }) rfl (fun K hK => ?_) AllReadyH.nil
  rw [if_pos (by rfl)]
  obtain ⟨v2, W2, hr2, ho2, hb2⟩ := append_byL ho1 hb1.size hb1 (bw_of (whole32 hc'.out hcl'.out (PrX.next hb1 hM0).2.1)) (by rw [ha'.out]; omega)
  refine wp_append_run rfl _ _ (by rfl) (by rfl) (hr2 _) ?_
  have hM2 := PrX.next hb2 hM0
  obtain ⟨a2, c2, rfl, hS2⟩ := BS.own ho2.1 ho2.2
  rw [List.length_append, ha'.out, hc'.out] at hS2 ⊢
  refine hK.out _ _ trivial (fun hHeld => ?_)
  clear hr2 ho1 hb1 ho2 hb2 hM0
  clear hK K
  try simp only [Act.put, List.setIfInBounds_toArray, List.set_cons_zero, List.set_cons_succ]
  refine wpAnyH_ready (rs := [5]) (by kernel_rfl) (by simp) ?_
  refine AllReadyH.cons (o := { dst := some 10, op := Op.call { callee := Callee.value (Operand.func 47), args := #[Operand.const (Value.string { data := #[112, 97, 105, 114] }), Operand.tmp 9], argTypes := #[9, 74] }, type := 23, pos := "ref.go:60", after := #[{ on := 4, ground := Ground.data }, { on := 4, ground := Ground.chain }], guard := none }) rfl (fun K hK => ?_) AllReadyH.nil
  rw [if_pos (by rfl)]
  show Oper.wp _ _ _ _ K _
  go_simp
  go_at_call 47
  refine (r2tagged_any ⟨#[112, 97, 105, 114]⟩ (by decide) _ _ _ _ W2 (bw_of hS2) (by omega)).mono ?_
  rintro e W3 ⟨rfl, hb3⟩
  have hM3 := PrX.next hb3 hM2
  rw [show Sha.tagged (octets ⟨#[112, 97, 105, 114]⟩) (a ++ c) = Go.Dr.pairD a c from rfl]
  obtain ⟨D, hDD⟩ : ∃ D, Hid (bv (Go.Dr.pairD a c) = D) := ⟨_, rfl⟩
  have hDl : D.length = 32 := by rw [← hDD.out, bv_length]; exact Sha.tagged_length _ _
  have hD1 : ∀ u ∈ D, u.oneCell' = true := by rw [← hDD.out]; exact bv_one _
  rw [hDD.out]
  refine hK.out _ _ trivial (fun hHeld => ?_)
  clear hb3 hM2 hS2
  clear hK K
  try simp only [Act.put, List.setIfInBounds_toArray, List.set_cons_zero, List.set_cons_succ]
  refine wpAnyH_ready (rs := [6]) (by kernel_rfl) (by simp) ?_
  refine AllReadyH.cons (o := { dst := none, op := Op.store 23 (Operand.tmp 4) (Operand.tmp 10), type := 0, pos := "ref.go:60", after := #[{ on := 5, ground := Ground.data }, { on := 5, ground := Ground.chain }, { on := 0, ground := Ground.phase }, { on := 1, ground := Ground.phase }, { on := 2, ground := Ground.phase }, { on := 3, ground := Ground.phase }, { on := 4, ground := Ground.phase }, { on := 5, ground := Ground.phase }], guard := none }) rfl (fun K hK => ?_) AllReadyH.nil
  rw [if_pos (by rfl)]
  have hP := Lib.hid (Put.mk' (ty := 23) (RES := D) hM3.2.2.1 (by rw [hDl]; rfl) (by rw [hDl]; exact size35) hD1)
  refine wp_store_mid 23 _ _ rfl (tb + 1 + 1) 0 D.toArray (by rfl) (by rfl) hP.out.th hP.out.inf hP.out.one ?_
  refine hK.out _ _ trivial (fun hHeld => ?_)
  clear hK K
  try simp only [Act.put]
  refine wpAnyH_done (by kernel_rfl) ?_ _
  have hend : Hid (X (.returned (.agg D.toArray)) (W3.setCells (tb + 1 + 1) 0 D)) := by
    show X _ _
    rw [hX.out, ← hDD.out]; exact ⟨rfl, by rw [hDD.out]; exact below_grown hM3.2.2.2.1 hP.out.grw hM3.2.2.2.1.size (by have := hM3.2.2.2.2; omega)⟩
  clear hDl hD1 hM3
  go_wp2_with fail
  exact bodyPost_ret (results_cell_row rfl _ _ (tb + 1 + 1) 23 D.toArray (0, 0) _ rfl hP.out.blk Tryz.underlying23 rfl hP.out.inf) rfl hend.out

set_option maxHeartbeats 400000 in
theorem r20dev_any (d : Int) (w : World) : Calls Tryz.prog 106 #[.int .i64 d] w (RetQ (.bool (decide (0 ≤ d ∧ d < 512))) w) := by
  by_cases h0 : 0 ≤ d
  · have h0' : decide (0 ≤ d) = true := by simpa using h0
    by_cases h1 : d < 512
    · have h1' : decide (d < 512) = true := by simpa using h1
      have hr : Hid (decide (0 ≤ d ∧ d < 512) = true) := by show _ = _; simp [h0, h1]
      rw [hr.out]
      go_enter Tryz.func106, Tryz.ntmps106
      go_wp2_with fail
      go_ret
      exact ⟨rfl, rfl⟩
    · have h1' : decide (d < 512) = false := by simpa using h1
      have hr : Hid (decide (0 ≤ d ∧ d < 512) = false) := by show _ = _; simp; omega
      rw [hr.out]
      go_enter Tryz.func106, Tryz.ntmps106
      go_wp2_with fail
      go_ret
      exact ⟨rfl, rfl⟩
  · have h0' : decide (0 ≤ d) = false := by simpa using h0
    have hr : Hid (decide (0 ≤ d ∧ d < 512) = false) := by show _ = _; simp; omega
    rw [hr.out]
    go_enter Tryz.func106, Tryz.ntmps106
    go_wp2_with fail
    go_ret
    exact ⟨rfl, rfl⟩

set_option maxHeartbeats 2000000 in
theorem r35valid_any (x : Lst) (w : World) : Calls Tryz.prog 61 #[.agg (gC x).toArray] w (RetBo (Go.Dr.fitsB x) w) := by
  obtain ⟨tb, htb⟩ : ∃ tb, Hid (w.heap.size = tb) := ⟨_, rfl⟩
  obtain ⟨dv, hd⟩ : ∃ dv, Hid (decide (0 ≤ x.dev ∧ x.dev < 512) = dv) := ⟨_, rfl⟩
  have hdv : Hid (∀ W, Calls Tryz.prog 106 #[.int .i64 x.dev] W (RetQ (.bool dv) W)) := fun W => by rw [← hd.out]; exact r20dev_any x.dev W
  have hc1 := Lib.hid (fun W => r4check_any x.ver W)
  have hc2 := Lib.hid (fun W => r4check_any x.leaf W)
  cases dv with
  | false =>
    have hV : Hid (Go.Dr.fitsB x = false) := by show _ = _; unfold Go.Dr.fitsB; rw [hd.out]; rfl
    go_enter Tryz.func61, Tryz.ntmps61
    go_upto_region 1 with fail
    rw [htb.out]
    generalize hW : World.alloc _ _ = W
    have hXb : Blk W tb 36 (gC x) := by rw [← hW, ← htb.out]; exact Blk.new w _ (gC x)
    have hb : Hid (Below w.heap.size w W) := by rw [← hW]; exact (Below.refl _ w).alloc (Nat.le_refl _) _
    clear hW
    have c0 := hXb.at_ (i := 0) (x := .int .i64 x.dev) rfl
    have c1 := hXb.at_ (i := 1) (x := .int .i64 x.ver) rfl
    have c2 := hXb.at_ (i := 2) (x := .int .i64 x.leaf) rfl
    have c3 := hXb.at_ (i := 3) (x := .int .i64 x.vers) rfl
    clear hXb
    go_wp2_with fail
    refine (hdv.out _).mono ?_
    rintro e w1 ⟨rfl, rfl⟩
    go_wp2_with fail
    go_ret
    exact ⟨by rw [hV.out]; rfl, hb.out⟩
  | true =>
    cases g1 : Grp.ok x.ver with
    | false =>
      have hV : Hid (Go.Dr.fitsB x = false) := by show _ = _; unfold Go.Dr.fitsB; rw [hd.out, g1]; rfl
      rw [Grp.chk_f g1] at hc1
      go_enter Tryz.func61, Tryz.ntmps61
      go_upto_region 1 with fail
      rw [htb.out]
      generalize hW : World.alloc _ _ = W
      have hXb : Blk W tb 36 (gC x) := by rw [← hW, ← htb.out]; exact Blk.new w _ (gC x)
      have hb : Hid (Below w.heap.size w W) := by rw [← hW]; exact (Below.refl _ w).alloc (Nat.le_refl _) _
      clear hW
      have c0 := hXb.at_ (i := 0) (x := .int .i64 x.dev) rfl
      have c1 := hXb.at_ (i := 1) (x := .int .i64 x.ver) rfl
      have c2 := hXb.at_ (i := 2) (x := .int .i64 x.leaf) rfl
      have c3 := hXb.at_ (i := 3) (x := .int .i64 x.vers) rfl
      clear hXb
      go_wp2_with fail
      refine (hdv.out _).mono ?_
      rintro e w1 ⟨rfl, rfl⟩
      go_wp2_with fail
      refine (hc1.out _).mono ?_
      rintro e w2 ⟨rfl, rfl⟩
      go_wp2_with fail
      go_ret
      exact ⟨by rw [hV.out]; rfl, hb.out⟩
    | true =>
      rw [Grp.chk_t g1] at hc1
      cases g2 : Grp.ok x.leaf with
      | false =>
        have hV : Hid (Go.Dr.fitsB x = false) := by show _ = _; unfold Go.Dr.fitsB; rw [hd.out, g1, g2]; rfl
        rw [Grp.chk_f g2] at hc2
        go_enter Tryz.func61, Tryz.ntmps61
        go_upto_region 1 with fail
        rw [htb.out]
        generalize hW : World.alloc _ _ = W
        have hXb : Blk W tb 36 (gC x) := by rw [← hW, ← htb.out]; exact Blk.new w _ (gC x)
        have hb : Hid (Below w.heap.size w W) := by rw [← hW]; exact (Below.refl _ w).alloc (Nat.le_refl _) _
        clear hW
        have c0 := hXb.at_ (i := 0) (x := .int .i64 x.dev) rfl
        have c1 := hXb.at_ (i := 1) (x := .int .i64 x.ver) rfl
        have c2 := hXb.at_ (i := 2) (x := .int .i64 x.leaf) rfl
        have c3 := hXb.at_ (i := 3) (x := .int .i64 x.vers) rfl
        clear hXb
        go_wp2_with fail
        refine (hdv.out _).mono ?_
        rintro e w1 ⟨rfl, rfl⟩
        go_wp2_with fail
        refine (hc1.out _).mono ?_
        rintro e w2 ⟨rfl, rfl⟩
        go_wp2_with fail
        refine (hc2.out _).mono ?_
        rintro e w3 ⟨rfl, rfl⟩
        go_wp2_with fail
        go_ret
        exact ⟨by rw [hV.out]; rfl, hb.out⟩
      | true =>
        rw [Grp.chk_t g2] at hc2
        by_cases h3 : 1 ≤ x.vers
        · have h3' : decide (1 ≤ x.vers) = true := by simpa using h3
          by_cases h4 : x.vers ≤ 1048576
          · have h4' : decide (x.vers ≤ 1048576) = true := by simpa using h4
            have hV : Hid (Go.Dr.fitsB x = true) := by show _ = _; unfold Go.Dr.fitsB; rw [hd.out, g1, g2, decide_eq_true ⟨h3, h4⟩]; rfl
            go_enter Tryz.func61, Tryz.ntmps61
            go_upto_region 1 with fail
            rw [htb.out]
            generalize hW : World.alloc _ _ = W
            have hXb : Blk W tb 36 (gC x) := by rw [← hW, ← htb.out]; exact Blk.new w _ (gC x)
            have hb : Hid (Below w.heap.size w W) := by rw [← hW]; exact (Below.refl _ w).alloc (Nat.le_refl _) _
            clear hW
            have c0 := hXb.at_ (i := 0) (x := .int .i64 x.dev) rfl
            have c1 := hXb.at_ (i := 1) (x := .int .i64 x.ver) rfl
            have c2 := hXb.at_ (i := 2) (x := .int .i64 x.leaf) rfl
            have c3 := hXb.at_ (i := 3) (x := .int .i64 x.vers) rfl
            clear hXb
            go_wp2_with fail
            refine (hdv.out _).mono ?_
            rintro e w1 ⟨rfl, rfl⟩
            go_wp2_with fail
            refine (hc1.out _).mono ?_
            rintro e w2 ⟨rfl, rfl⟩
            go_wp2_with fail
            refine (hc2.out _).mono ?_
            rintro e w3 ⟨rfl, rfl⟩
            go_wp2_with fail
            go_ret
            exact ⟨by rw [hV.out]; rfl, hb.out⟩
          · have h4' : decide (x.vers ≤ 1048576) = false := by simpa using h4
            have hV : Hid (Go.Dr.fitsB x = false) := by show _ = _; unfold Go.Dr.fitsB; rw [hd.out, g1, g2, decide_eq_false (fun h => h4 h.2)]; rfl
            go_enter Tryz.func61, Tryz.ntmps61
            go_upto_region 1 with fail
            rw [htb.out]
            generalize hW : World.alloc _ _ = W
            have hXb : Blk W tb 36 (gC x) := by rw [← hW, ← htb.out]; exact Blk.new w _ (gC x)
            have hb : Hid (Below w.heap.size w W) := by rw [← hW]; exact (Below.refl _ w).alloc (Nat.le_refl _) _
            clear hW
            have c0 := hXb.at_ (i := 0) (x := .int .i64 x.dev) rfl
            have c1 := hXb.at_ (i := 1) (x := .int .i64 x.ver) rfl
            have c2 := hXb.at_ (i := 2) (x := .int .i64 x.leaf) rfl
            have c3 := hXb.at_ (i := 3) (x := .int .i64 x.vers) rfl
            clear hXb
            go_wp2_with fail
            refine (hdv.out _).mono ?_
            rintro e w1 ⟨rfl, rfl⟩
            go_wp2_with fail
            refine (hc1.out _).mono ?_
            rintro e w2 ⟨rfl, rfl⟩
            go_wp2_with fail
            refine (hc2.out _).mono ?_
            rintro e w3 ⟨rfl, rfl⟩
            go_wp2_with fail
            go_ret
            exact ⟨by rw [hV.out]; rfl, hb.out⟩
        · have h3' : decide (1 ≤ x.vers) = false := by simpa using h3
          have hV : Hid (Go.Dr.fitsB x = false) := by show _ = _; unfold Go.Dr.fitsB; rw [hd.out, g1, g2, decide_eq_false (fun h => h3 h.1)]; rfl
          go_enter Tryz.func61, Tryz.ntmps61
          go_upto_region 1 with fail
          rw [htb.out]
          generalize hW : World.alloc _ _ = W
          have hXb : Blk W tb 36 (gC x) := by rw [← hW, ← htb.out]; exact Blk.new w _ (gC x)
          have hb : Hid (Below w.heap.size w W) := by rw [← hW]; exact (Below.refl _ w).alloc (Nat.le_refl _) _
          clear hW
          have c0 := hXb.at_ (i := 0) (x := .int .i64 x.dev) rfl
          have c1 := hXb.at_ (i := 1) (x := .int .i64 x.ver) rfl
          have c2 := hXb.at_ (i := 2) (x := .int .i64 x.leaf) rfl
          have c3 := hXb.at_ (i := 3) (x := .int .i64 x.vers) rfl
          clear hXb
          go_wp2_with fail
          refine (hdv.out _).mono ?_
          rintro e w1 ⟨rfl, rfl⟩
          go_wp2_with fail
          refine (hc1.out _).mono ?_
          rintro e w2 ⟨rfl, rfl⟩
          go_wp2_with fail
          refine (hc2.out _).mono ?_
          rintro e w3 ⟨rfl, rfl⟩
          go_wp2_with fail
          go_ret
          exact ⟨by rw [hV.out]; rfl, hb.out⟩
end Go.Proofs.YthhblcbnnmoojaaGreatDoor
namespace Go.Proofs.YthhblcbnnmoojaaGreatDoor
open Go.RowKit Go.Mem
open Go.Dr (Lst Rt)

theorem put_g {W : World} {g : Nat} {t : TypeId} {y : Lst} (x : Lst) (h : Blk W g t (gC y)) : Put 36 W g t (gC x) := Put.mk' h rfl sizeG (gC_one x)
set_option maxRecDepth 20000 in
set_option maxHeartbeats 2000000 in
theorem r35of_any (K : Nat → Prop) (a : Option Addr) (n c : Nat) (l : List Lst) (dev : Int) (w : World) (H : GS K w a n c l) :
    Calls Tryz.prog 60 #[.slice a n c, .int .i64 dev] w (fun e w' => e = .returned (.tuple #[.agg (gC (Go.Dr.ofZ l dev)).toArray, .bool (Go.Dr.ofL l dev).isSome]) ∧ Below w.heap.size w w') := by
  have n63 : (n : Int) ≤ 9223372036854775807 := by have := RS.le H; have := RS.max H; omega
  have hlen := RS.len H
  have H' := Lib.hid H
  clear H
  obtain ⟨X, hX⟩ : ∃ X, Hid (X = fun e w' => e = Ending.returned (.tuple #[.agg (gC (Go.Dr.ofZ l dev)).toArray, .bool (Go.Dr.ofL l dev).isSome]) ∧ Below w.heap.size w w') := ⟨_, rfl⟩
  rw [← hX.out]
  obtain ⟨tb, htb⟩ : ∃ tb, Hid (w.heap.size = tb) := ⟨_, rfl⟩
  go_enter Tryz.func60, Tryz.ntmps60
  go_wp2_with fail
  rw [htb.out]
  generalize hW : World.alloc _ _ = W
  have hB : Hid (Blk W tb 36 (gC Go.Dr.zeroL)) := by rw [← hW, ← htb.out]; exact Blk.new w _ (gC Go.Dr.zeroL)
  have hb : Hid (Below w.heap.size w W) := by rw [← hW]; exact (Below.refl _ w).alloc (Nat.le_refl _) _
  have hG : Hid (GS K W a n c l) := H'.out.below hb.out
  clear hW H'
  go_loopw [6] (fun i wr => ∃ k : Nat, k ≤ n ∧ i = .int .i64 (k : Int) ∧ Hid (∀ (j : Nat) y, j < k → l[j]? = some y → y.dev ≠ dev) ∧ wr = W) (fun i _ => n - (intOf i).toNat)
  case atStart => exact ⟨0, Nat.zero_le _, rfl, fun j y h => absurd h (by omega), rfl⟩
  case round =>
    obtain ⟨k, hk, rfl, hno, rfl⟩ := hrel
    by_cases hlt : k < n
    · have hkl : k < l.length := by omega
      have hkx := List.getElem?_eq_getElem hkl
      obtain ⟨b, off, rfl, hbl, _, hox, hrg⟩ := GS.cells hG.out hkx
      obtain ⟨x, hx⟩ : ∃ x, l[k] = x := ⟨_, rfl⟩
      rw [hx] at hkx hox hrg
      have k0 : (0 : Int) ≤ (k : Int) := by omega
      have k1 : (k : Int) < (n : Int) := by omega
      have q0 := hrg 0 (.int .i64 x.dev) rfl
      rw [Nat.add_zero] at q0
      have hkx' := Lib.hid hkx
      have hrg' := Lib.hid hrg
      by_cases hd : x.dev = dev
      · have hd' : (x.dev == dev) = true := by simp [hd]
        have hf := Go.Dr.ofL_at hkx hd hno.out
        have hP := Lib.hid (put_g x hB.out)
        have hend : Hid (X (.returned (.tuple #[.agg (gC x).toArray, .bool true])) (wr.setCells tb 0 (gC x))) := by
          show X _ _
          rw [hX.out]
          refine ⟨by unfold Go.Dr.ofZ; rw [hf]; rfl, below_grown hb.out hP.out.grw hb.out.size (Nat.le_of_eq htb.out)⟩
        have hi := Lib.hid (show (Tryz.prog.info? 36).map (·.size) = some (gC x).length from sizeG)
        obtain ⟨r, hr⟩ : ∃ r, Hid (gC x = r) := ⟨_, rfl⟩
        rw [hr.out] at hP hend hi hrg'
        clear hd hf hkx hrg hx
        go_wp2_with (first
          | (refine wpList_load_mid (by rfl) 36 (.tmp 22) rfl b (off + k * 5) rfl r _ hrg'.out Tryz.underlying36 rfl hi.out ?_)
          | (refine wpList_store_mid (by rfl) 36 (.tmp 4) (.tmp 23) (by rfl) tb 0 r.toArray (by rfl) (by rfl) hP.out.th hP.out.inf hP.out.one ?_))
        exact ret_cell_tmp (p := 4) (u := 5) rfl hP.out.blk Tryz.underlying36 rfl hi.out rfl rfl rfl hend.out
      · have hd' : (x.dev == dev) = false := by simp [hd]
        have hno' : Hid (∀ (j : Nat) y, j < k + 1 → l[j]? = some y → y.dev ≠ dev) := fun j y hj hy => by
          rcases Nat.lt_or_eq_of_le (Nat.le_of_lt_succ hj) with h | rfl
          · exact hno.out j y h hy
          · rw [hkx'.out] at hy; cases hy; exact hd
        clear hd hkx hrg hx
        go_wp2_with fail
        go_roundw
        case rel => exact ⟨k + 1, by omega, by go_num, hno', trivial⟩
        case measure => simp [intOf]; omega
    · obtain rfl : n = k := by omega
      have hf : Go.Dr.ofL l dev = none := Go.Dr.ofL_none (fun j y hy => hno.out j y (by have := (List.getElem?_eq_some_iff.1 hy).1; omega) hy)
      have hP := Lib.hid (put_g Go.Dr.zeroL hB.out)
      have hend : Hid (X (.returned (.tuple #[.agg (gC Go.Dr.zeroL).toArray, .bool false])) (wr.setCells tb 0 (gC Go.Dr.zeroL))) := by
        show X _ _
        rw [hX.out]
        refine ⟨by unfold Go.Dr.ofZ; rw [hf]; rfl, below_grown hb.out hP.out.grw hb.out.size (Nat.le_of_eq htb.out)⟩
      clear hf
      go_wp2_with (first
        | (refine wpList_store_mid (by rfl) 36 (.tmp 4) (.tmp 24) (by rfl) tb 0 (gC Go.Dr.zeroL).toArray (by rfl) (by rfl) hP.out.th hP.out.inf hP.out.one ?_))
      exact ret_cell_tmp (p := 4) (u := 5) rfl hP.out.blk Tryz.underlying36 rfl sizeG rfl rfl rfl hend.out

set_option maxRecDepth 20000 in
set_option maxHeartbeats 4000000 in
theorem r35check_any (K : Nat → Prop) (a : Option Addr) (n c : Nat) (l : List Lst) (w : World) (H : GS K w a n c l) :
    Calls Tryz.prog 23 #[.slice a n c] w (RetI (if Go.Dr.chkL l then 0 else 350) w) := by
  have n63 : (n : Int) ≤ 9223372036854775807 := by have := RS.le H; have := RS.max H; omega
  have hlen := RS.len H
  have H' := Lib.hid H
  clear H
  obtain ⟨V, hV⟩ : ∃ V : Int, Hid ((if Go.Dr.chkL l then 0 else 350) = V) := ⟨_, rfl⟩
  rw [hV.out]
  go_enter Tryz.func23, Tryz.ntmps23
  go_wp2_with fail
  go_loopw [3] (fun i wr => ∃ (k : Nat) (p : Int), k ≤ n ∧ i = .int .i64 k ∧ Hid (Below w.heap.size w wr) ∧ Hid (Go.Dr.chkGo p (l.drop k) = Go.Dr.chkL l) ∧ Hid ((k = 0 ∧ p = -1) ∨ ∃ q : Lst, 0 < k ∧ l[k - 1]? = some q ∧ q.dev = p)) (fun i _ => n - (intOf i).toNat)
  case atStart => exact ⟨0, -1, Nat.zero_le _, rfl, Below.refl _ _, rfl, .inl ⟨rfl, rfl⟩⟩
  case round =>
    obtain ⟨k, p, hk, rfl, hbr, hf, hpv⟩ := hrel
    by_cases hlt : k < n
    · have hkl : k < l.length := by omega
      have hkx := List.getElem?_eq_getElem hkl
      obtain ⟨b, off, rfl, hbl, _, hox, hrg0⟩ := GS.cells (H'.out) hkx
      have hf' := hf.out
      rw [List.drop_eq_getElem_cons hkl, Go.Dr.chkGo] at hf'
      obtain ⟨x, hx⟩ : ∃ x, l[k] = x := ⟨_, rfl⟩
      rw [hx] at hf' hox hrg0 hkx
      have hrg : Hid (∀ wz, Below w.heap.size w wz → wz.rangeAt b (off + k * 5) (gC x)) := fun wz hb j u hu => (hb.cell (p := ⟨b, off + k * 5 + j, none⟩) hbl).trans (hrg0 j u hu)
      have hi := Lib.hid (show (Tryz.prog.info? 36).map (·.size) = some (gC x).length from sizeG)
      have hvl := Lib.hid (fun W => r35valid_any x W)
      have k0 : (0 : Int) ≤ (k : Int) := by omega
      have k1 : (k : Int) < (n : Int) := by omega
      have hkx' := Lib.hid hkx
      obtain ⟨r, hr⟩ : ∃ r, Hid (gC x = r) := ⟨_, rfl⟩
      have hd0 : Hid (r[0]? = some (.int .i64 x.dev)) := by show _ = _; rw [← hr.out]; rfl
      rw [hr.out] at hrg hi hvl
      cases hfx : Go.Dr.fitsB x with
      | false =>
        rw [hfx] at hvl hf'
        have hV2 : Hid (V = 350) := by show _ = _; rw [← hV.out, ← hf']; rfl
        clear hkx hrg0 hx hf' hfx hf
        go_wp2_with fail
        refine wp_region_held_drew (S := fun wz => Below w.heap.size w wz) (by kernel_rfl) (hbr.out.drew) (fun hHeld => ?_)
        generalize wr.drew = W0 at *
        refine wpAnyH_take (i := 0) (oi := { dst := some 10, op := Op.move (Operand.tmp 0), type := 31, pos := "ref.go:20", after := #[], guard := none }) (v := ?_) rfl (by kernel_rfl) (by kernel_rfl) (by kernel_rfl) (fun _ _ _ h => h) (Or.inl ⟨by rfl, ?_⟩) hHeld ?_
        rotate_left
        · intro wz hSw
          go_simp
          all_goals (with_reducible rfl)
        try simp only [Act.put, List.setIfInBounds_toArray, List.set_cons_zero, List.set_cons_succ]
        refine wpAnyH_take (i := 1) (oi := { dst := some 11, op := Op.move (Operand.tmp 3), type := 3, pos := "ref.go:20", after := #[], guard := none }) (v := ?_) rfl (by kernel_rfl) (by kernel_rfl) (by kernel_rfl) (fun _ _ _ h => h) (Or.inl ⟨by rfl, ?_⟩) hHeld ?_
        rotate_left
        · intro wz hSw
          go_simp
          all_goals (with_reducible rfl)
        try simp only [Act.put, List.setIfInBounds_toArray, List.set_cons_zero, List.set_cons_succ]
        refine wpAnyH_take (i := 2) (oi := { dst := some 12, op := Op.indexAddr 31 (Operand.tmp 10) (Operand.tmp 11), type := 0, pos := "ref.go:20", after := #[{ on := 0, ground := Ground.data }, { on := 1, ground := Ground.data }], guard := none }) (v := ?_) rfl (by kernel_rfl) (by kernel_rfl) (by kernel_rfl) (fun _ _ _ h => h) (Or.inl ⟨by rfl, ?_⟩) hHeld ?_
        rotate_left
        · intro wz hSw
          go_simp
          all_goals (with_reducible rfl)
        try simp only [Act.put, List.setIfInBounds_toArray, List.set_cons_zero, List.set_cons_succ]
        refine wpAnyH_take (i := 3) (oi := { dst := some 13, op := Op.load 36 (Operand.tmp 12), type := 36, pos := "ref.go:20", after := #[{ on := 2, ground := Ground.data }], guard := none }) rfl (by kernel_rfl) (by kernel_rfl) (by kernel_rfl) (fun _ _ _ h => h) (yieldsIf_load_mid (by rfl) _ _ rfl b (off + k * 5) rfl (r) _ (fun wz h => hrg.out wz h) Tryz.underlying36 rfl (hi.out)) hHeld ?_
        try simp only [Act.put, List.setIfInBounds_toArray, List.set_cons_zero, List.set_cons_succ]
        refine wpAnyH_ready (rs := [4]) (by kernel_rfl) (by simp) ?_
        refine AllReadyH.cons (o := { dst := some 14, op := Op.call { callee := Callee.value (Operand.func 61), args := #[Operand.tmp 13], argTypes := #[36] }, type := 4, pos := "ref.go:20", after := #[{ on := 3, ground := Ground.data }], guard := none }) rfl (fun K hK => ?_) AllReadyH.nil
        rw [if_pos (by rfl)]
        show Oper.wp _ _ _ _ K _
        go_simp
        go_at_call 61
        refine (hvl.out W0).mono ?_
        rintro e W1 ⟨rfl, hb1⟩
        refine hK.out _ _ (hHeld.trans (hb1.mono hHeld.size)) (fun hHeld2 => ?_)
        clear hb1
        clear hHeld
        have hHeld := hHeld2
        clear hHeld2
        clear hK K
        try simp only [Act.put, List.setIfInBounds_toArray, List.set_cons_zero, List.set_cons_succ]
        refine wpAnyH_take (i := 5) (oi := { dst := some 15, op := Op.unOp UnOp.not 4 (Operand.tmp 14), type := 4, pos := "ref.go:20", after := #[{ on := 4, ground := Ground.data }], guard := none }) (v := ?_) rfl (by kernel_rfl) (by kernel_rfl) (by kernel_rfl) (fun _ _ _ h => h) (Or.inl ⟨by rfl, ?_⟩) hHeld ?_
        rotate_left
        · intro wz hSw
          go_simp
          all_goals (with_reducible rfl)
        try simp only [Act.put, List.setIfInBounds_toArray, List.set_cons_zero, List.set_cons_succ]
        refine wpAnyH_take (i := 6) (oi := { dst := some 16, op := Op.move (Operand.tmp 15), type := 4, pos := "ref.go:20", after := #[{ on := 5, ground := Ground.data }, { on := 4, ground := Ground.chain }], guard := none }) (v := ?_) rfl (by kernel_rfl) (by kernel_rfl) (by kernel_rfl) (fun _ _ _ h => h) (Or.inl ⟨by rfl, ?_⟩) hHeld ?_
        rotate_left
        · intro wz hSw
          go_simp
          all_goals (with_reducible rfl)
        try simp only [Act.put, List.setIfInBounds_toArray, List.set_cons_zero, List.set_cons_succ]
        refine wpAnyH_take (i := 7) (oi := { dst := some 17, op := Op.move (Operand.tmp 3), type := 3, pos := "ref.go:20", after := #[{ on := 6, ground := Ground.guard }], guard := some (6, false) }) (v := undef) rfl (by kernel_rfl) (by kernel_rfl) (by kernel_rfl) (fun _ _ _ h => h) (Or.inr ⟨by rfl, rfl⟩) hHeld ?_
        try simp only [Act.put, List.setIfInBounds_toArray, List.set_cons_zero, List.set_cons_succ]
        refine wpAnyH_take (i := 8) (oi := { dst := some 18, op := Op.binOp BinOp.gtr 3 (Operand.tmp 17) (Operand.const (Value.int IntKind.i64 0)) 3, type := 4, pos := "ref.go:20", after := #[{ on := 7, ground := Ground.data }, { on := 6, ground := Ground.guard }], guard := some (6, false) }) (v := undef) rfl (by kernel_rfl) (by kernel_rfl) (by kernel_rfl) (fun _ _ _ h => h) (Or.inr ⟨by rfl, rfl⟩) hHeld ?_
        try simp only [Act.put, List.setIfInBounds_toArray, List.set_cons_zero, List.set_cons_succ]
        refine wpAnyH_take (i := 9) (oi := { dst := some 19, op := Op.move (Operand.tmp 18), type := 4, pos := "ref.go:20", after := #[{ on := 8, ground := Ground.data }, { on := 6, ground := Ground.chain }, { on := 6, ground := Ground.guard }], guard := some (6, false) }) (v := undef) rfl (by kernel_rfl) (by kernel_rfl) (by kernel_rfl) (fun _ _ _ h => h) (Or.inr ⟨by rfl, rfl⟩) hHeld ?_
        try simp only [Act.put, List.setIfInBounds_toArray, List.set_cons_zero, List.set_cons_succ]
        refine wpAnyH_take (i := 10) (oi := { dst := some 20, op := Op.move (Operand.tmp 0), type := 31, pos := "ref.go:20", after := #[{ on := 9, ground := Ground.guard }], guard := some (9, true) }) (v := undef) rfl (by kernel_rfl) (by kernel_rfl) (by kernel_rfl) (fun _ _ _ h => h) (Or.inr ⟨by rfl, rfl⟩) hHeld ?_
        try simp only [Act.put, List.setIfInBounds_toArray, List.set_cons_zero, List.set_cons_succ]
        refine wpAnyH_take (i := 11) (oi := { dst := some 21, op := Op.move (Operand.tmp 3), type := 3, pos := "ref.go:20", after := #[{ on := 9, ground := Ground.guard }], guard := some (9, true) }) (v := undef) rfl (by kernel_rfl) (by kernel_rfl) (by kernel_rfl) (fun _ _ _ h => h) (Or.inr ⟨by rfl, rfl⟩) hHeld ?_
        try simp only [Act.put, List.setIfInBounds_toArray, List.set_cons_zero, List.set_cons_succ]
        refine wpAnyH_take (i := 12) (oi := { dst := some 22, op := Op.binOp BinOp.sub 3 (Operand.tmp 21) (Operand.const (Value.int IntKind.i64 1)) 3, type := 3, pos := "ref.go:20", after := #[{ on := 11, ground := Ground.data }, { on := 9, ground := Ground.guard }], guard := some (9, true) }) (v := undef) rfl (by kernel_rfl) (by kernel_rfl) (by kernel_rfl) (fun _ _ _ h => h) (Or.inr ⟨by rfl, rfl⟩) hHeld ?_
        try simp only [Act.put, List.setIfInBounds_toArray, List.set_cons_zero, List.set_cons_succ]
        refine wpAnyH_take (i := 13) (oi := { dst := some 23, op := Op.indexAddr 31 (Operand.tmp 20) (Operand.tmp 22), type := 0, pos := "ref.go:20", after := #[{ on := 10, ground := Ground.data }, { on := 12, ground := Ground.data }, { on := 9, ground := Ground.guard }], guard := some (9, true) }) (v := undef) rfl (by kernel_rfl) (by kernel_rfl) (by kernel_rfl) (fun _ _ _ h => h) (Or.inr ⟨by rfl, rfl⟩) hHeld ?_
        try simp only [Act.put, List.setIfInBounds_toArray, List.set_cons_zero, List.set_cons_succ]
        refine wpAnyH_take (i := 14) (oi := { dst := some 24, op := Op.fieldAddr 36 (Operand.tmp 23) 0, type := 0, pos := "ref.go:20", after := #[{ on := 13, ground := Ground.data }, { on := 9, ground := Ground.guard }], guard := some (9, true) }) (v := undef) rfl (by kernel_rfl) (by kernel_rfl) (by kernel_rfl) (fun _ _ _ h => h) (Or.inr ⟨by rfl, rfl⟩) hHeld ?_
        try simp only [Act.put, List.setIfInBounds_toArray, List.set_cons_zero, List.set_cons_succ]
        refine wpAnyH_take (i := 15) (oi := { dst := some 25, op := Op.load 3 (Operand.tmp 24), type := 3, pos := "ref.go:20", after := #[{ on := 14, ground := Ground.data }, { on := 9, ground := Ground.guard }], guard := some (9, true) }) (v := undef) rfl (by kernel_rfl) (by kernel_rfl) (by kernel_rfl) (fun _ _ _ h => h) (Or.inr ⟨by rfl, rfl⟩) hHeld ?_
        try simp only [Act.put, List.setIfInBounds_toArray, List.set_cons_zero, List.set_cons_succ]
        refine wpAnyH_take (i := 16) (oi := { dst := some 26, op := Op.move (Operand.tmp 0), type := 31, pos := "ref.go:20", after := #[{ on := 9, ground := Ground.guard }], guard := some (9, true) }) (v := undef) rfl (by kernel_rfl) (by kernel_rfl) (by kernel_rfl) (fun _ _ _ h => h) (Or.inr ⟨by rfl, rfl⟩) hHeld ?_
        try simp only [Act.put, List.setIfInBounds_toArray, List.set_cons_zero, List.set_cons_succ]
        refine wpAnyH_take (i := 17) (oi := { dst := some 27, op := Op.move (Operand.tmp 3), type := 3, pos := "ref.go:20", after := #[{ on := 9, ground := Ground.guard }], guard := some (9, true) }) (v := undef) rfl (by kernel_rfl) (by kernel_rfl) (by kernel_rfl) (fun _ _ _ h => h) (Or.inr ⟨by rfl, rfl⟩) hHeld ?_
        try simp only [Act.put, List.setIfInBounds_toArray, List.set_cons_zero, List.set_cons_succ]
        refine wpAnyH_take (i := 18) (oi := { dst := some 28, op := Op.indexAddr 31 (Operand.tmp 26) (Operand.tmp 27), type := 0, pos := "ref.go:20", after := #[{ on := 16, ground := Ground.data }, { on := 17, ground := Ground.data }, { on := 9, ground := Ground.guard }], guard := some (9, true) }) (v := undef) rfl (by kernel_rfl) (by kernel_rfl) (by kernel_rfl) (fun _ _ _ h => h) (Or.inr ⟨by rfl, rfl⟩) hHeld ?_
        try simp only [Act.put, List.setIfInBounds_toArray, List.set_cons_zero, List.set_cons_succ]
        refine wpAnyH_take (i := 19) (oi := { dst := some 29, op := Op.fieldAddr 36 (Operand.tmp 28) 0, type := 0, pos := "ref.go:20", after := #[{ on := 18, ground := Ground.data }, { on := 9, ground := Ground.guard }], guard := some (9, true) }) (v := undef) rfl (by kernel_rfl) (by kernel_rfl) (by kernel_rfl) (fun _ _ _ h => h) (Or.inr ⟨by rfl, rfl⟩) hHeld ?_
        try simp only [Act.put, List.setIfInBounds_toArray, List.set_cons_zero, List.set_cons_succ]
        refine wpAnyH_take (i := 20) (oi := { dst := some 30, op := Op.load 3 (Operand.tmp 29), type := 3, pos := "ref.go:20", after := #[{ on := 19, ground := Ground.data }, { on := 9, ground := Ground.guard }], guard := some (9, true) }) (v := undef) rfl (by kernel_rfl) (by kernel_rfl) (by kernel_rfl) (fun _ _ _ h => h) (Or.inr ⟨by rfl, rfl⟩) hHeld ?_
        try simp only [Act.put, List.setIfInBounds_toArray, List.set_cons_zero, List.set_cons_succ]
        refine wpAnyH_take (i := 21) (oi := { dst := some 31, op := Op.binOp BinOp.geq 3 (Operand.tmp 25) (Operand.tmp 30) 3, type := 4, pos := "ref.go:20", after := #[{ on := 15, ground := Ground.data }, { on := 20, ground := Ground.data }, { on := 9, ground := Ground.guard }], guard := some (9, true) }) (v := undef) rfl (by kernel_rfl) (by kernel_rfl) (by kernel_rfl) (fun _ _ _ h => h) (Or.inr ⟨by rfl, rfl⟩) hHeld ?_
        try simp only [Act.put, List.setIfInBounds_toArray, List.set_cons_zero, List.set_cons_succ]
        refine wpAnyH_take (i := 22) (oi := { dst := some 32, op := Op.pick (Operand.tmp 19) (Operand.tmp 31) (Operand.const (Value.bool false)), type := 4, pos := "ref.go:20", after := #[{ on := 9, ground := Ground.data }, { on := 21, ground := Ground.data }, { on := 6, ground := Ground.guard }], guard := some (6, false) }) (v := undef) rfl (by kernel_rfl) (by kernel_rfl) (by kernel_rfl) (fun _ _ _ h => h) (Or.inr ⟨by rfl, rfl⟩) hHeld ?_
        try simp only [Act.put, List.setIfInBounds_toArray, List.set_cons_zero, List.set_cons_succ]
        refine wpAnyH_take (i := 23) (oi := { dst := some 33, op := Op.pick (Operand.tmp 16) (Operand.const (Value.bool true)) (Operand.tmp 32), type := 4, pos := "ref.go:20", after := #[{ on := 6, ground := Ground.data }, { on := 22, ground := Ground.data }], guard := none }) (v := ?_) rfl (by kernel_rfl) (by kernel_rfl) (by kernel_rfl) (fun _ _ _ h => h) (Or.inl ⟨by rfl, ?_⟩) hHeld ?_
        rotate_left
        · intro wz hSw
          go_simp
          all_goals (with_reducible rfl)
        try simp only [Act.put, List.setIfInBounds_toArray, List.set_cons_zero, List.set_cons_succ]
        refine wpAnyH_done (by kernel_rfl) ?_ _
        go_wp2_with fail
        go_ret
        exact ⟨by rw [hV2.out]; rfl, hHeld⟩
      | true =>
        rw [hfx, Bool.true_and] at hf'
        rw [hfx] at hvl
        by_cases hk0 : k = 0
        · subst hk0
          have hp1 : p = -1 := by rcases hpv.out with h | ⟨q, h, _⟩; exact h.2; omega
          subst hp1
          have hdx : decide (-1 < x.dev) = true := by
            have := Go.Dr.fits_dev hfx; exact decide_eq_true (by omega)
          rw [hdx, Bool.true_and] at hf'
          have hf2 := Lib.hid hf'
          have hnx : Hid ((0 + 1 = 0 ∧ x.dev = -1) ∨ ∃ q : Lst, 0 < 0 + 1 ∧ l[0 + 1 - 1]? = some q ∧ q.dev = x.dev) := .inr ⟨x, by omega, hkx'.out, rfl⟩
          clear hkx hrg0 hx hf' hfx hf hdx
          go_wp2_with fail
          refine wp_region_held_drew (S := fun wz => Below w.heap.size w wz) (by kernel_rfl) (hbr.out.drew) (fun hHeld => ?_)
          generalize wr.drew = W0 at *
          refine wpAnyH_take (i := 0) (oi := { dst := some 10, op := Op.move (Operand.tmp 0), type := 31, pos := "ref.go:20", after := #[], guard := none }) (v := ?_) rfl (by kernel_rfl) (by kernel_rfl) (by kernel_rfl) (fun _ _ _ h => h) (Or.inl ⟨by rfl, ?_⟩) hHeld ?_
          rotate_left
          · intro wz hSw
            go_simp
            all_goals (with_reducible rfl)
          try simp only [Act.put, List.setIfInBounds_toArray, List.set_cons_zero, List.set_cons_succ]
          refine wpAnyH_take (i := 1) (oi := { dst := some 11, op := Op.move (Operand.tmp 3), type := 3, pos := "ref.go:20", after := #[], guard := none }) (v := ?_) rfl (by kernel_rfl) (by kernel_rfl) (by kernel_rfl) (fun _ _ _ h => h) (Or.inl ⟨by rfl, ?_⟩) hHeld ?_
          rotate_left
          · intro wz hSw
            go_simp
            all_goals (with_reducible rfl)
          try simp only [Act.put, List.setIfInBounds_toArray, List.set_cons_zero, List.set_cons_succ]
          refine wpAnyH_take (i := 2) (oi := { dst := some 12, op := Op.indexAddr 31 (Operand.tmp 10) (Operand.tmp 11), type := 0, pos := "ref.go:20", after := #[{ on := 0, ground := Ground.data }, { on := 1, ground := Ground.data }], guard := none }) (v := ?_) rfl (by kernel_rfl) (by kernel_rfl) (by kernel_rfl) (fun _ _ _ h => h) (Or.inl ⟨by rfl, ?_⟩) hHeld ?_
          rotate_left
          · intro wz hSw
            go_simp
            all_goals (with_reducible rfl)
          try simp only [Act.put, List.setIfInBounds_toArray, List.set_cons_zero, List.set_cons_succ]
          refine wpAnyH_take (i := 3) (oi := { dst := some 13, op := Op.load 36 (Operand.tmp 12), type := 36, pos := "ref.go:20", after := #[{ on := 2, ground := Ground.data }], guard := none }) rfl (by kernel_rfl) (by kernel_rfl) (by kernel_rfl) (fun _ _ _ h => h) (yieldsIf_load_mid (by rfl) _ _ rfl b (off + 0 * 5) rfl (r) _ (fun wz h => hrg.out wz h) Tryz.underlying36 rfl (hi.out)) hHeld ?_
          try simp only [Act.put, List.setIfInBounds_toArray, List.set_cons_zero, List.set_cons_succ]
          refine wpAnyH_ready (rs := [4]) (by kernel_rfl) (by simp) ?_
          refine AllReadyH.cons (o := { dst := some 14, op := Op.call { callee := Callee.value (Operand.func 61), args := #[Operand.tmp 13], argTypes := #[36] }, type := 4, pos := "ref.go:20", after := #[{ on := 3, ground := Ground.data }], guard := none }) rfl (fun K hK => ?_) AllReadyH.nil
          rw [if_pos (by rfl)]
          show Oper.wp _ _ _ _ K _
          go_simp
          go_at_call 61
          refine (hvl.out W0).mono ?_
          rintro e W1 ⟨rfl, hb1⟩
          refine hK.out _ _ (hHeld.trans (hb1.mono hHeld.size)) (fun hHeld2 => ?_)
          clear hb1
          clear hHeld
          have hHeld := hHeld2
          clear hHeld2
          clear hK K
          try simp only [Act.put, List.setIfInBounds_toArray, List.set_cons_zero, List.set_cons_succ]
          refine wpAnyH_take (i := 5) (oi := { dst := some 15, op := Op.unOp UnOp.not 4 (Operand.tmp 14), type := 4, pos := "ref.go:20", after := #[{ on := 4, ground := Ground.data }], guard := none }) (v := ?_) rfl (by kernel_rfl) (by kernel_rfl) (by kernel_rfl) (fun _ _ _ h => h) (Or.inl ⟨by rfl, ?_⟩) hHeld ?_
          rotate_left
          · intro wz hSw
            go_simp
            all_goals (with_reducible rfl)
          try simp only [Act.put, List.setIfInBounds_toArray, List.set_cons_zero, List.set_cons_succ]
          refine wpAnyH_take (i := 6) (oi := { dst := some 16, op := Op.move (Operand.tmp 15), type := 4, pos := "ref.go:20", after := #[{ on := 5, ground := Ground.data }, { on := 4, ground := Ground.chain }], guard := none }) (v := ?_) rfl (by kernel_rfl) (by kernel_rfl) (by kernel_rfl) (fun _ _ _ h => h) (Or.inl ⟨by rfl, ?_⟩) hHeld ?_
          rotate_left
          · intro wz hSw
            go_simp
            all_goals (with_reducible rfl)
          try simp only [Act.put, List.setIfInBounds_toArray, List.set_cons_zero, List.set_cons_succ]
          refine wpAnyH_take (i := 7) (oi := { dst := some 17, op := Op.move (Operand.tmp 3), type := 3, pos := "ref.go:20", after := #[{ on := 6, ground := Ground.guard }], guard := some (6, false) }) (v := ?_) rfl (by kernel_rfl) (by kernel_rfl) (by kernel_rfl) (fun _ _ _ h => h) (Or.inl ⟨by rfl, ?_⟩) hHeld ?_
          rotate_left
          · intro wz hSw
            go_simp
            all_goals (with_reducible rfl)
          try simp only [Act.put, List.setIfInBounds_toArray, List.set_cons_zero, List.set_cons_succ]
          refine wpAnyH_take (i := 8) (oi := { dst := some 18, op := Op.binOp BinOp.gtr 3 (Operand.tmp 17) (Operand.const (Value.int IntKind.i64 0)) 3, type := 4, pos := "ref.go:20", after := #[{ on := 7, ground := Ground.data }, { on := 6, ground := Ground.guard }], guard := some (6, false) }) (v := ?_) rfl (by kernel_rfl) (by kernel_rfl) (by kernel_rfl) (fun _ _ _ h => h) (Or.inl ⟨by rfl, ?_⟩) hHeld ?_
          rotate_left
          · intro wz hSw
            go_simp
            all_goals (with_reducible rfl)
          try simp only [Act.put, List.setIfInBounds_toArray, List.set_cons_zero, List.set_cons_succ]
          refine wpAnyH_take (i := 9) (oi := { dst := some 19, op := Op.move (Operand.tmp 18), type := 4, pos := "ref.go:20", after := #[{ on := 8, ground := Ground.data }, { on := 6, ground := Ground.chain }, { on := 6, ground := Ground.guard }], guard := some (6, false) }) (v := ?_) rfl (by kernel_rfl) (by kernel_rfl) (by kernel_rfl) (fun _ _ _ h => h) (Or.inl ⟨by rfl, ?_⟩) hHeld ?_
          rotate_left
          · intro wz hSw
            go_simp
            all_goals (with_reducible rfl)
          try simp only [Act.put, List.setIfInBounds_toArray, List.set_cons_zero, List.set_cons_succ]
          refine wpAnyH_take (i := 10) (oi := { dst := some 20, op := Op.move (Operand.tmp 0), type := 31, pos := "ref.go:20", after := #[{ on := 9, ground := Ground.guard }], guard := some (9, true) }) (v := undef) rfl (by kernel_rfl) (by kernel_rfl) (by kernel_rfl) (fun _ _ _ h => h) (Or.inr ⟨by rfl, rfl⟩) hHeld ?_
          try simp only [Act.put, List.setIfInBounds_toArray, List.set_cons_zero, List.set_cons_succ]
          refine wpAnyH_take (i := 11) (oi := { dst := some 21, op := Op.move (Operand.tmp 3), type := 3, pos := "ref.go:20", after := #[{ on := 9, ground := Ground.guard }], guard := some (9, true) }) (v := undef) rfl (by kernel_rfl) (by kernel_rfl) (by kernel_rfl) (fun _ _ _ h => h) (Or.inr ⟨by rfl, rfl⟩) hHeld ?_
          try simp only [Act.put, List.setIfInBounds_toArray, List.set_cons_zero, List.set_cons_succ]
          refine wpAnyH_take (i := 12) (oi := { dst := some 22, op := Op.binOp BinOp.sub 3 (Operand.tmp 21) (Operand.const (Value.int IntKind.i64 1)) 3, type := 3, pos := "ref.go:20", after := #[{ on := 11, ground := Ground.data }, { on := 9, ground := Ground.guard }], guard := some (9, true) }) (v := undef) rfl (by kernel_rfl) (by kernel_rfl) (by kernel_rfl) (fun _ _ _ h => h) (Or.inr ⟨by rfl, rfl⟩) hHeld ?_
          try simp only [Act.put, List.setIfInBounds_toArray, List.set_cons_zero, List.set_cons_succ]
          refine wpAnyH_take (i := 13) (oi := { dst := some 23, op := Op.indexAddr 31 (Operand.tmp 20) (Operand.tmp 22), type := 0, pos := "ref.go:20", after := #[{ on := 10, ground := Ground.data }, { on := 12, ground := Ground.data }, { on := 9, ground := Ground.guard }], guard := some (9, true) }) (v := undef) rfl (by kernel_rfl) (by kernel_rfl) (by kernel_rfl) (fun _ _ _ h => h) (Or.inr ⟨by rfl, rfl⟩) hHeld ?_
          try simp only [Act.put, List.setIfInBounds_toArray, List.set_cons_zero, List.set_cons_succ]
          refine wpAnyH_take (i := 14) (oi := { dst := some 24, op := Op.fieldAddr 36 (Operand.tmp 23) 0, type := 0, pos := "ref.go:20", after := #[{ on := 13, ground := Ground.data }, { on := 9, ground := Ground.guard }], guard := some (9, true) }) (v := undef) rfl (by kernel_rfl) (by kernel_rfl) (by kernel_rfl) (fun _ _ _ h => h) (Or.inr ⟨by rfl, rfl⟩) hHeld ?_
          try simp only [Act.put, List.setIfInBounds_toArray, List.set_cons_zero, List.set_cons_succ]
          refine wpAnyH_take (i := 15) (oi := { dst := some 25, op := Op.load 3 (Operand.tmp 24), type := 3, pos := "ref.go:20", after := #[{ on := 14, ground := Ground.data }, { on := 9, ground := Ground.guard }], guard := some (9, true) }) (v := undef) rfl (by kernel_rfl) (by kernel_rfl) (by kernel_rfl) (fun _ _ _ h => h) (Or.inr ⟨by rfl, rfl⟩) hHeld ?_
          try simp only [Act.put, List.setIfInBounds_toArray, List.set_cons_zero, List.set_cons_succ]
          refine wpAnyH_take (i := 16) (oi := { dst := some 26, op := Op.move (Operand.tmp 0), type := 31, pos := "ref.go:20", after := #[{ on := 9, ground := Ground.guard }], guard := some (9, true) }) (v := undef) rfl (by kernel_rfl) (by kernel_rfl) (by kernel_rfl) (fun _ _ _ h => h) (Or.inr ⟨by rfl, rfl⟩) hHeld ?_
          try simp only [Act.put, List.setIfInBounds_toArray, List.set_cons_zero, List.set_cons_succ]
          refine wpAnyH_take (i := 17) (oi := { dst := some 27, op := Op.move (Operand.tmp 3), type := 3, pos := "ref.go:20", after := #[{ on := 9, ground := Ground.guard }], guard := some (9, true) }) (v := undef) rfl (by kernel_rfl) (by kernel_rfl) (by kernel_rfl) (fun _ _ _ h => h) (Or.inr ⟨by rfl, rfl⟩) hHeld ?_
          try simp only [Act.put, List.setIfInBounds_toArray, List.set_cons_zero, List.set_cons_succ]
          refine wpAnyH_take (i := 18) (oi := { dst := some 28, op := Op.indexAddr 31 (Operand.tmp 26) (Operand.tmp 27), type := 0, pos := "ref.go:20", after := #[{ on := 16, ground := Ground.data }, { on := 17, ground := Ground.data }, { on := 9, ground := Ground.guard }], guard := some (9, true) }) (v := undef) rfl (by kernel_rfl) (by kernel_rfl) (by kernel_rfl) (fun _ _ _ h => h) (Or.inr ⟨by rfl, rfl⟩) hHeld ?_
          try simp only [Act.put, List.setIfInBounds_toArray, List.set_cons_zero, List.set_cons_succ]
          refine wpAnyH_take (i := 19) (oi := { dst := some 29, op := Op.fieldAddr 36 (Operand.tmp 28) 0, type := 0, pos := "ref.go:20", after := #[{ on := 18, ground := Ground.data }, { on := 9, ground := Ground.guard }], guard := some (9, true) }) (v := undef) rfl (by kernel_rfl) (by kernel_rfl) (by kernel_rfl) (fun _ _ _ h => h) (Or.inr ⟨by rfl, rfl⟩) hHeld ?_
          try simp only [Act.put, List.setIfInBounds_toArray, List.set_cons_zero, List.set_cons_succ]
          refine wpAnyH_take (i := 20) (oi := { dst := some 30, op := Op.load 3 (Operand.tmp 29), type := 3, pos := "ref.go:20", after := #[{ on := 19, ground := Ground.data }, { on := 9, ground := Ground.guard }], guard := some (9, true) }) (v := undef) rfl (by kernel_rfl) (by kernel_rfl) (by kernel_rfl) (fun _ _ _ h => h) (Or.inr ⟨by rfl, rfl⟩) hHeld ?_
          try simp only [Act.put, List.setIfInBounds_toArray, List.set_cons_zero, List.set_cons_succ]
          refine wpAnyH_take (i := 21) (oi := { dst := some 31, op := Op.binOp BinOp.geq 3 (Operand.tmp 25) (Operand.tmp 30) 3, type := 4, pos := "ref.go:20", after := #[{ on := 15, ground := Ground.data }, { on := 20, ground := Ground.data }, { on := 9, ground := Ground.guard }], guard := some (9, true) }) (v := undef) rfl (by kernel_rfl) (by kernel_rfl) (by kernel_rfl) (fun _ _ _ h => h) (Or.inr ⟨by rfl, rfl⟩) hHeld ?_
          try simp only [Act.put, List.setIfInBounds_toArray, List.set_cons_zero, List.set_cons_succ]
          refine wpAnyH_take (i := 22) (oi := { dst := some 32, op := Op.pick (Operand.tmp 19) (Operand.tmp 31) (Operand.const (Value.bool false)), type := 4, pos := "ref.go:20", after := #[{ on := 9, ground := Ground.data }, { on := 21, ground := Ground.data }, { on := 6, ground := Ground.guard }], guard := some (6, false) }) (v := ?_) rfl (by kernel_rfl) (by kernel_rfl) (by kernel_rfl) (fun _ _ _ h => h) (Or.inl ⟨by rfl, ?_⟩) hHeld ?_
          rotate_left
          · intro wz hSw
            go_simp
            all_goals (with_reducible rfl)
          try simp only [Act.put, List.setIfInBounds_toArray, List.set_cons_zero, List.set_cons_succ]
          refine wpAnyH_take (i := 23) (oi := { dst := some 33, op := Op.pick (Operand.tmp 16) (Operand.const (Value.bool true)) (Operand.tmp 32), type := 4, pos := "ref.go:20", after := #[{ on := 6, ground := Ground.data }, { on := 22, ground := Ground.data }], guard := none }) (v := ?_) rfl (by kernel_rfl) (by kernel_rfl) (by kernel_rfl) (fun _ _ _ h => h) (Or.inl ⟨by rfl, ?_⟩) hHeld ?_
          rotate_left
          · intro wz hSw
            go_simp
            all_goals (with_reducible rfl)
          try simp only [Act.put, List.setIfInBounds_toArray, List.set_cons_zero, List.set_cons_succ]
          refine wpAnyH_done (by kernel_rfl) ?_ _
          have hb9 := Lib.hid hHeld
          clear hHeld
          go_wp2_with fail
          go_roundw
          case rel => exact ⟨0 + 1, x.dev, by omega, by go_num, hb9, hf2, hnx⟩
          case measure => simp [intOf]; omega
        · obtain ⟨q, hq0, hq, hqd⟩ : ∃ q : Lst, 0 < k ∧ l[k - 1]? = some q ∧ q.dev = p := by rcases hpv.out with h | h; exact absurd h.1 hk0; exact h
          obtain ⟨b2, off2, hab, hbl2, _, hoq, hrq0⟩ := GS.cells (H'.out) hq
          cases hab
          subst hqd
          obtain ⟨k', hk'⟩ : ∃ k', k = k' + 1 := ⟨k - 1, by omega⟩
          subst hk'
          rw [Nat.add_sub_cancel] at hq hrq0
          have hcq : Hid (∀ wz, Below w.heap.size w wz → wz.cell? ⟨b, off + k' * 5, none⟩ = some (.int .i64 q.dev)) := fun wz hb => by
            have := hrq0 0 (.int .i64 q.dev) rfl
            rw [Nat.add_zero] at this
            exact (hb.cell (p := ⟨b, off + k' * 5, none⟩) hbl).trans this
          have hcx : Hid (∀ wz, Below w.heap.size w wz → wz.cell? ⟨b, off + (k' + 1) * 5, none⟩ = some (.int .i64 x.dev)) := fun wz hb => by
            have := hrg.out wz hb 0 (.int .i64 x.dev) hd0.out
            rw [Nat.add_zero] at this
            exact this
          have kk : (((k' + 1 : Nat) : Int)) = (k' : Int) + 1 := by omega
          have kpos : decide ((0 : Int) < (k' : Int) + 1) = true := decide_eq_true (by omega)
          have hk'0 : (0 : Int) ≤ (k' : Int) := by omega
          have hwk : IntKind.i64.wrap (k' : Int) = (k' : Int) := IntWalk.i64_in _ ⟨by omega, by omega⟩
          have hk'4 : (0 : Int) ≤ (k' : Int) + 1 := by omega
          have hk'1 : (k' : Int) + 1 ≤ 9223372036854775807 := by omega
          have hk'2 : (k' : Int) < (n : Int) := by omega
          have hk'3 : (k' : Int) + 1 < (n : Int) := by omega
          by_cases hge : x.dev ≤ q.dev
          · have hge' : decide (x.dev ≤ q.dev) = true := by simpa using hge
            rw [decide_eq_false (by omega), Bool.false_and] at hf'
            have hV2 : Hid (V = 350) := by show _ = _; rw [← hV.out, ← hf']; rfl
            clear hkx hrg0 hx hf' hfx hf hk0 hq hrq0 hge
            go_wp2_with fail
            refine wp_region_held_drew (S := fun wz => Below w.heap.size w wz) (by kernel_rfl) (hbr.out.drew) (fun hHeld => ?_)
            generalize wr.drew = W0 at *
            refine wpAnyH_take (i := 0) (oi := { dst := some 10, op := Op.move (Operand.tmp 0), type := 31, pos := "ref.go:20", after := #[], guard := none }) (v := ?_) rfl (by kernel_rfl) (by kernel_rfl) (by kernel_rfl) (fun _ _ _ h => h) (Or.inl ⟨by rfl, ?_⟩) hHeld ?_
            rotate_left
            · intro wz hSw
              go_simp
              all_goals (with_reducible rfl)
            try simp only [Act.put, List.setIfInBounds_toArray, List.set_cons_zero, List.set_cons_succ]
            refine wpAnyH_take (i := 1) (oi := { dst := some 11, op := Op.move (Operand.tmp 3), type := 3, pos := "ref.go:20", after := #[], guard := none }) (v := ?_) rfl (by kernel_rfl) (by kernel_rfl) (by kernel_rfl) (fun _ _ _ h => h) (Or.inl ⟨by rfl, ?_⟩) hHeld ?_
            rotate_left
            · intro wz hSw
              go_simp
              all_goals (with_reducible rfl)
            try simp only [Act.put, List.setIfInBounds_toArray, List.set_cons_zero, List.set_cons_succ]
            refine wpAnyH_take (i := 2) (oi := { dst := some 12, op := Op.indexAddr 31 (Operand.tmp 10) (Operand.tmp 11), type := 0, pos := "ref.go:20", after := #[{ on := 0, ground := Ground.data }, { on := 1, ground := Ground.data }], guard := none }) (v := ?_) rfl (by kernel_rfl) (by kernel_rfl) (by kernel_rfl) (fun _ _ _ h => h) (Or.inl ⟨by rfl, ?_⟩) hHeld ?_
            rotate_left
            · intro wz hSw
              go_simp
              all_goals (with_reducible rfl)
            try simp only [Act.put, List.setIfInBounds_toArray, List.set_cons_zero, List.set_cons_succ]
            refine wpAnyH_take (i := 3) (oi := { dst := some 13, op := Op.load 36 (Operand.tmp 12), type := 36, pos := "ref.go:20", after := #[{ on := 2, ground := Ground.data }], guard := none }) rfl (by kernel_rfl) (by kernel_rfl) (by kernel_rfl) (fun _ _ _ h => h) (yieldsIf_load_mid (by rfl) _ _ rfl b (off + (k' + 1) * 5) rfl (r) _ (fun wz h => hrg.out wz h) Tryz.underlying36 rfl (hi.out)) hHeld ?_
            try simp only [Act.put, List.setIfInBounds_toArray, List.set_cons_zero, List.set_cons_succ]
            refine wpAnyH_ready (rs := [4]) (by kernel_rfl) (by simp) ?_
            refine AllReadyH.cons (o := { dst := some 14, op := Op.call { callee := Callee.value (Operand.func 61), args := #[Operand.tmp 13], argTypes := #[36] }, type := 4, pos := "ref.go:20", after := #[{ on := 3, ground := Ground.data }], guard := none }) rfl (fun K hK => ?_) AllReadyH.nil
            rw [if_pos (by rfl)]
            show Oper.wp _ _ _ _ K _
            go_simp
            go_at_call 61
            refine (hvl.out W0).mono ?_
            rintro e W1 ⟨rfl, hb1⟩
            refine hK.out _ _ (hHeld.trans (hb1.mono hHeld.size)) (fun hHeld2 => ?_)
            clear hb1
            clear hHeld
            have hHeld := hHeld2
            clear hHeld2
            clear hK K
            try simp only [Act.put, List.setIfInBounds_toArray, List.set_cons_zero, List.set_cons_succ]
            refine wpAnyH_take (i := 5) (oi := { dst := some 15, op := Op.unOp UnOp.not 4 (Operand.tmp 14), type := 4, pos := "ref.go:20", after := #[{ on := 4, ground := Ground.data }], guard := none }) (v := ?_) rfl (by kernel_rfl) (by kernel_rfl) (by kernel_rfl) (fun _ _ _ h => h) (Or.inl ⟨by rfl, ?_⟩) hHeld ?_
            rotate_left
            · intro wz hSw
              go_simp
              all_goals (with_reducible rfl)
            try simp only [Act.put, List.setIfInBounds_toArray, List.set_cons_zero, List.set_cons_succ]
            refine wpAnyH_take (i := 6) (oi := { dst := some 16, op := Op.move (Operand.tmp 15), type := 4, pos := "ref.go:20", after := #[{ on := 5, ground := Ground.data }, { on := 4, ground := Ground.chain }], guard := none }) (v := ?_) rfl (by kernel_rfl) (by kernel_rfl) (by kernel_rfl) (fun _ _ _ h => h) (Or.inl ⟨by rfl, ?_⟩) hHeld ?_
            rotate_left
            · intro wz hSw
              go_simp
              all_goals (with_reducible rfl)
            try simp only [Act.put, List.setIfInBounds_toArray, List.set_cons_zero, List.set_cons_succ]
            refine wpAnyH_take (i := 7) (oi := { dst := some 17, op := Op.move (Operand.tmp 3), type := 3, pos := "ref.go:20", after := #[{ on := 6, ground := Ground.guard }], guard := some (6, false) }) (v := ?_) rfl (by kernel_rfl) (by kernel_rfl) (by kernel_rfl) (fun _ _ _ h => h) (Or.inl ⟨by rfl, ?_⟩) hHeld ?_
            rotate_left
            · intro wz hSw
              go_simp
              all_goals (with_reducible rfl)
            try simp only [Act.put, List.setIfInBounds_toArray, List.set_cons_zero, List.set_cons_succ]
            refine wpAnyH_take (i := 8) (oi := { dst := some 18, op := Op.binOp BinOp.gtr 3 (Operand.tmp 17) (Operand.const (Value.int IntKind.i64 0)) 3, type := 4, pos := "ref.go:20", after := #[{ on := 7, ground := Ground.data }, { on := 6, ground := Ground.guard }], guard := some (6, false) }) (v := ?_) rfl (by kernel_rfl) (by kernel_rfl) (by kernel_rfl) (fun _ _ _ h => h) (Or.inl ⟨by rfl, ?_⟩) hHeld ?_
            rotate_left
            · intro wz hSw
              go_simp
              all_goals (with_reducible rfl)
            try simp only [Act.put, List.setIfInBounds_toArray, List.set_cons_zero, List.set_cons_succ]
            refine wpAnyH_take (i := 9) (oi := { dst := some 19, op := Op.move (Operand.tmp 18), type := 4, pos := "ref.go:20", after := #[{ on := 8, ground := Ground.data }, { on := 6, ground := Ground.chain }, { on := 6, ground := Ground.guard }], guard := some (6, false) }) (v := ?_) rfl (by kernel_rfl) (by kernel_rfl) (by kernel_rfl) (fun _ _ _ h => h) (Or.inl ⟨by rfl, ?_⟩) hHeld ?_
            rotate_left
            · intro wz hSw
              go_simp
              all_goals (with_reducible rfl)
            try simp only [Act.put, List.setIfInBounds_toArray, List.set_cons_zero, List.set_cons_succ]
            refine wpAnyH_take (i := 10) (oi := { dst := some 20, op := Op.move (Operand.tmp 0), type := 31, pos := "ref.go:20", after := #[{ on := 9, ground := Ground.guard }], guard := some (9, true) }) (v := ?_) rfl (by kernel_rfl) (by kernel_rfl) (by kernel_rfl) (fun _ _ _ h => h) (Or.inl ⟨by rfl, ?_⟩) hHeld ?_
            rotate_left
            · intro wz hSw
              go_simp
              all_goals (with_reducible rfl)
            try simp only [Act.put, List.setIfInBounds_toArray, List.set_cons_zero, List.set_cons_succ]
            refine wpAnyH_take (i := 11) (oi := { dst := some 21, op := Op.move (Operand.tmp 3), type := 3, pos := "ref.go:20", after := #[{ on := 9, ground := Ground.guard }], guard := some (9, true) }) (v := ?_) rfl (by kernel_rfl) (by kernel_rfl) (by kernel_rfl) (fun _ _ _ h => h) (Or.inl ⟨by rfl, ?_⟩) hHeld ?_
            rotate_left
            · intro wz hSw
              go_simp
              all_goals (with_reducible rfl)
            try simp only [Act.put, List.setIfInBounds_toArray, List.set_cons_zero, List.set_cons_succ]
            refine wpAnyH_take (i := 12) (oi := { dst := some 22, op := Op.binOp BinOp.sub 3 (Operand.tmp 21) (Operand.const (Value.int IntKind.i64 1)) 3, type := 3, pos := "ref.go:20", after := #[{ on := 11, ground := Ground.data }, { on := 9, ground := Ground.guard }], guard := some (9, true) }) (v := ?_) rfl (by kernel_rfl) (by kernel_rfl) (by kernel_rfl) (fun _ _ _ h => h) (Or.inl ⟨by rfl, ?_⟩) hHeld ?_
            rotate_left
            · intro wz hSw
              go_simp
              all_goals (with_reducible rfl)
            try simp only [Act.put, List.setIfInBounds_toArray, List.set_cons_zero, List.set_cons_succ]
            refine wpAnyH_take (i := 13) (oi := { dst := some 23, op := Op.indexAddr 31 (Operand.tmp 20) (Operand.tmp 22), type := 0, pos := "ref.go:20", after := #[{ on := 10, ground := Ground.data }, { on := 12, ground := Ground.data }, { on := 9, ground := Ground.guard }], guard := some (9, true) }) (v := ?_) rfl (by kernel_rfl) (by kernel_rfl) (by kernel_rfl) (fun _ _ _ h => h) (Or.inl ⟨by rfl, ?_⟩) hHeld ?_
            rotate_left
            · intro wz hSw
              go_simp
              all_goals (with_reducible rfl)
            try simp only [Act.put, List.setIfInBounds_toArray, List.set_cons_zero, List.set_cons_succ]
            refine wpAnyH_take (i := 14) (oi := { dst := some 24, op := Op.fieldAddr 36 (Operand.tmp 23) 0, type := 0, pos := "ref.go:20", after := #[{ on := 13, ground := Ground.data }, { on := 9, ground := Ground.guard }], guard := some (9, true) }) (v := ?_) rfl (by kernel_rfl) (by kernel_rfl) (by kernel_rfl) (fun _ _ _ h => h) (Or.inl ⟨by rfl, ?_⟩) hHeld ?_
            rotate_left
            · intro wz hSw
              go_simp
              all_goals (with_reducible rfl)
            try simp only [Act.put, List.setIfInBounds_toArray, List.set_cons_zero, List.set_cons_succ]
            refine wpAnyH_take (i := 15) (oi := { dst := some 25, op := Op.load 3 (Operand.tmp 24), type := 3, pos := "ref.go:20", after := #[{ on := 14, ground := Ground.data }, { on := 9, ground := Ground.guard }], guard := some (9, true) }) (v := ?_) rfl (by kernel_rfl) (by kernel_rfl) (by kernel_rfl) (fun _ _ _ h => h) (Or.inl ⟨by rfl, ?_⟩) hHeld ?_
            rotate_left
            · intro wz hSw
              have q0 := hcq.out wz hSw
              go_simp
              all_goals (with_reducible rfl)
            try simp only [Act.put, List.setIfInBounds_toArray, List.set_cons_zero, List.set_cons_succ]
            refine wpAnyH_take (i := 16) (oi := { dst := some 26, op := Op.move (Operand.tmp 0), type := 31, pos := "ref.go:20", after := #[{ on := 9, ground := Ground.guard }], guard := some (9, true) }) (v := ?_) rfl (by kernel_rfl) (by kernel_rfl) (by kernel_rfl) (fun _ _ _ h => h) (Or.inl ⟨by rfl, ?_⟩) hHeld ?_
            rotate_left
            · intro wz hSw
              go_simp
              all_goals (with_reducible rfl)
            try simp only [Act.put, List.setIfInBounds_toArray, List.set_cons_zero, List.set_cons_succ]
            refine wpAnyH_take (i := 17) (oi := { dst := some 27, op := Op.move (Operand.tmp 3), type := 3, pos := "ref.go:20", after := #[{ on := 9, ground := Ground.guard }], guard := some (9, true) }) (v := ?_) rfl (by kernel_rfl) (by kernel_rfl) (by kernel_rfl) (fun _ _ _ h => h) (Or.inl ⟨by rfl, ?_⟩) hHeld ?_
            rotate_left
            · intro wz hSw
              go_simp
              all_goals (with_reducible rfl)
            try simp only [Act.put, List.setIfInBounds_toArray, List.set_cons_zero, List.set_cons_succ]
            refine wpAnyH_take (i := 18) (oi := { dst := some 28, op := Op.indexAddr 31 (Operand.tmp 26) (Operand.tmp 27), type := 0, pos := "ref.go:20", after := #[{ on := 16, ground := Ground.data }, { on := 17, ground := Ground.data }, { on := 9, ground := Ground.guard }], guard := some (9, true) }) (v := ?_) rfl (by kernel_rfl) (by kernel_rfl) (by kernel_rfl) (fun _ _ _ h => h) (Or.inl ⟨by rfl, ?_⟩) hHeld ?_
            rotate_left
            · intro wz hSw
              go_simp
              all_goals (with_reducible rfl)
            try simp only [Act.put, List.setIfInBounds_toArray, List.set_cons_zero, List.set_cons_succ]
            refine wpAnyH_take (i := 19) (oi := { dst := some 29, op := Op.fieldAddr 36 (Operand.tmp 28) 0, type := 0, pos := "ref.go:20", after := #[{ on := 18, ground := Ground.data }, { on := 9, ground := Ground.guard }], guard := some (9, true) }) (v := ?_) rfl (by kernel_rfl) (by kernel_rfl) (by kernel_rfl) (fun _ _ _ h => h) (Or.inl ⟨by rfl, ?_⟩) hHeld ?_
            rotate_left
            · intro wz hSw
              go_simp
              all_goals (with_reducible rfl)
            try simp only [Act.put, List.setIfInBounds_toArray, List.set_cons_zero, List.set_cons_succ]
            refine wpAnyH_take (i := 20) (oi := { dst := some 30, op := Op.load 3 (Operand.tmp 29), type := 3, pos := "ref.go:20", after := #[{ on := 19, ground := Ground.data }, { on := 9, ground := Ground.guard }], guard := some (9, true) }) (v := ?_) rfl (by kernel_rfl) (by kernel_rfl) (by kernel_rfl) (fun _ _ _ h => h) (Or.inl ⟨by rfl, ?_⟩) hHeld ?_
            rotate_left
            · intro wz hSw
              have q0 := hcx.out wz hSw
              go_simp
              all_goals (with_reducible rfl)
            try simp only [Act.put, List.setIfInBounds_toArray, List.set_cons_zero, List.set_cons_succ]
            refine wpAnyH_take (i := 21) (oi := { dst := some 31, op := Op.binOp BinOp.geq 3 (Operand.tmp 25) (Operand.tmp 30) 3, type := 4, pos := "ref.go:20", after := #[{ on := 15, ground := Ground.data }, { on := 20, ground := Ground.data }, { on := 9, ground := Ground.guard }], guard := some (9, true) }) (v := ?_) rfl (by kernel_rfl) (by kernel_rfl) (by kernel_rfl) (fun _ _ _ h => h) (Or.inl ⟨by rfl, ?_⟩) hHeld ?_
            rotate_left
            · intro wz hSw
              go_simp
              all_goals (with_reducible rfl)
            try simp only [Act.put, List.setIfInBounds_toArray, List.set_cons_zero, List.set_cons_succ]
            refine wpAnyH_take (i := 22) (oi := { dst := some 32, op := Op.pick (Operand.tmp 19) (Operand.tmp 31) (Operand.const (Value.bool false)), type := 4, pos := "ref.go:20", after := #[{ on := 9, ground := Ground.data }, { on := 21, ground := Ground.data }, { on := 6, ground := Ground.guard }], guard := some (6, false) }) (v := ?_) rfl (by kernel_rfl) (by kernel_rfl) (by kernel_rfl) (fun _ _ _ h => h) (Or.inl ⟨by rfl, ?_⟩) hHeld ?_
            rotate_left
            · intro wz hSw
              go_simp
              all_goals (with_reducible rfl)
            try simp only [Act.put, List.setIfInBounds_toArray, List.set_cons_zero, List.set_cons_succ]
            refine wpAnyH_take (i := 23) (oi := { dst := some 33, op := Op.pick (Operand.tmp 16) (Operand.const (Value.bool true)) (Operand.tmp 32), type := 4, pos := "ref.go:20", after := #[{ on := 6, ground := Ground.data }, { on := 22, ground := Ground.data }], guard := none }) (v := ?_) rfl (by kernel_rfl) (by kernel_rfl) (by kernel_rfl) (fun _ _ _ h => h) (Or.inl ⟨by rfl, ?_⟩) hHeld ?_
            rotate_left
            · intro wz hSw
              go_simp
              all_goals (with_reducible rfl)
            try simp only [Act.put, List.setIfInBounds_toArray, List.set_cons_zero, List.set_cons_succ]
            refine wpAnyH_done (by kernel_rfl) ?_ _
            go_wp2_with fail
            go_ret
            exact ⟨by rw [hV2.out]; rfl, hHeld⟩
          · have hge' : decide (x.dev ≤ q.dev) = false := by simpa using hge
            rw [decide_eq_true (by omega), Bool.true_and] at hf'
            have hf2 := Lib.hid hf'
            have hnx : Hid ((k' + 1 + 1 = 0 ∧ x.dev = -1) ∨ ∃ q : Lst, 0 < k' + 1 + 1 ∧ l[k' + 1 + 1 - 1]? = some q ∧ q.dev = x.dev) := .inr ⟨x, by omega, hkx'.out, rfl⟩
            clear hkx hrg0 hx hf' hfx hf hk0 hq hrq0 hge
            go_wp2_with fail
            refine wp_region_held_drew (S := fun wz => Below w.heap.size w wz) (by kernel_rfl) (hbr.out.drew) (fun hHeld => ?_)
            generalize wr.drew = W0 at *
            refine wpAnyH_take (i := 0) (oi := { dst := some 10, op := Op.move (Operand.tmp 0), type := 31, pos := "ref.go:20", after := #[], guard := none }) (v := ?_) rfl (by kernel_rfl) (by kernel_rfl) (by kernel_rfl) (fun _ _ _ h => h) (Or.inl ⟨by rfl, ?_⟩) hHeld ?_
            rotate_left
            · intro wz hSw
              go_simp
              all_goals (with_reducible rfl)
            try simp only [Act.put, List.setIfInBounds_toArray, List.set_cons_zero, List.set_cons_succ]
            refine wpAnyH_take (i := 1) (oi := { dst := some 11, op := Op.move (Operand.tmp 3), type := 3, pos := "ref.go:20", after := #[], guard := none }) (v := ?_) rfl (by kernel_rfl) (by kernel_rfl) (by kernel_rfl) (fun _ _ _ h => h) (Or.inl ⟨by rfl, ?_⟩) hHeld ?_
            rotate_left
            · intro wz hSw
              go_simp
              all_goals (with_reducible rfl)
            try simp only [Act.put, List.setIfInBounds_toArray, List.set_cons_zero, List.set_cons_succ]
            refine wpAnyH_take (i := 2) (oi := { dst := some 12, op := Op.indexAddr 31 (Operand.tmp 10) (Operand.tmp 11), type := 0, pos := "ref.go:20", after := #[{ on := 0, ground := Ground.data }, { on := 1, ground := Ground.data }], guard := none }) (v := ?_) rfl (by kernel_rfl) (by kernel_rfl) (by kernel_rfl) (fun _ _ _ h => h) (Or.inl ⟨by rfl, ?_⟩) hHeld ?_
            rotate_left
            · intro wz hSw
              go_simp
              all_goals (with_reducible rfl)
            try simp only [Act.put, List.setIfInBounds_toArray, List.set_cons_zero, List.set_cons_succ]
            refine wpAnyH_take (i := 3) (oi := { dst := some 13, op := Op.load 36 (Operand.tmp 12), type := 36, pos := "ref.go:20", after := #[{ on := 2, ground := Ground.data }], guard := none }) rfl (by kernel_rfl) (by kernel_rfl) (by kernel_rfl) (fun _ _ _ h => h) (yieldsIf_load_mid (by rfl) _ _ rfl b (off + (k' + 1) * 5) rfl (r) _ (fun wz h => hrg.out wz h) Tryz.underlying36 rfl (hi.out)) hHeld ?_
            try simp only [Act.put, List.setIfInBounds_toArray, List.set_cons_zero, List.set_cons_succ]
            refine wpAnyH_ready (rs := [4]) (by kernel_rfl) (by simp) ?_
            refine AllReadyH.cons (o := { dst := some 14, op := Op.call { callee := Callee.value (Operand.func 61), args := #[Operand.tmp 13], argTypes := #[36] }, type := 4, pos := "ref.go:20", after := #[{ on := 3, ground := Ground.data }], guard := none }) rfl (fun K hK => ?_) AllReadyH.nil
            rw [if_pos (by rfl)]
            show Oper.wp _ _ _ _ K _
            go_simp
            go_at_call 61
            refine (hvl.out W0).mono ?_
            rintro e W1 ⟨rfl, hb1⟩
            refine hK.out _ _ (hHeld.trans (hb1.mono hHeld.size)) (fun hHeld2 => ?_)
            clear hb1
            clear hHeld
            have hHeld := hHeld2
            clear hHeld2
            clear hK K
            try simp only [Act.put, List.setIfInBounds_toArray, List.set_cons_zero, List.set_cons_succ]
            refine wpAnyH_take (i := 5) (oi := { dst := some 15, op := Op.unOp UnOp.not 4 (Operand.tmp 14), type := 4, pos := "ref.go:20", after := #[{ on := 4, ground := Ground.data }], guard := none }) (v := ?_) rfl (by kernel_rfl) (by kernel_rfl) (by kernel_rfl) (fun _ _ _ h => h) (Or.inl ⟨by rfl, ?_⟩) hHeld ?_
            rotate_left
            · intro wz hSw
              go_simp
              all_goals (with_reducible rfl)
            try simp only [Act.put, List.setIfInBounds_toArray, List.set_cons_zero, List.set_cons_succ]
            refine wpAnyH_take (i := 6) (oi := { dst := some 16, op := Op.move (Operand.tmp 15), type := 4, pos := "ref.go:20", after := #[{ on := 5, ground := Ground.data }, { on := 4, ground := Ground.chain }], guard := none }) (v := ?_) rfl (by kernel_rfl) (by kernel_rfl) (by kernel_rfl) (fun _ _ _ h => h) (Or.inl ⟨by rfl, ?_⟩) hHeld ?_
            rotate_left
            · intro wz hSw
              go_simp
              all_goals (with_reducible rfl)
            try simp only [Act.put, List.setIfInBounds_toArray, List.set_cons_zero, List.set_cons_succ]
            refine wpAnyH_take (i := 7) (oi := { dst := some 17, op := Op.move (Operand.tmp 3), type := 3, pos := "ref.go:20", after := #[{ on := 6, ground := Ground.guard }], guard := some (6, false) }) (v := ?_) rfl (by kernel_rfl) (by kernel_rfl) (by kernel_rfl) (fun _ _ _ h => h) (Or.inl ⟨by rfl, ?_⟩) hHeld ?_
            rotate_left
            · intro wz hSw
              go_simp
              all_goals (with_reducible rfl)
            try simp only [Act.put, List.setIfInBounds_toArray, List.set_cons_zero, List.set_cons_succ]
            refine wpAnyH_take (i := 8) (oi := { dst := some 18, op := Op.binOp BinOp.gtr 3 (Operand.tmp 17) (Operand.const (Value.int IntKind.i64 0)) 3, type := 4, pos := "ref.go:20", after := #[{ on := 7, ground := Ground.data }, { on := 6, ground := Ground.guard }], guard := some (6, false) }) (v := ?_) rfl (by kernel_rfl) (by kernel_rfl) (by kernel_rfl) (fun _ _ _ h => h) (Or.inl ⟨by rfl, ?_⟩) hHeld ?_
            rotate_left
            · intro wz hSw
              go_simp
              all_goals (with_reducible rfl)
            try simp only [Act.put, List.setIfInBounds_toArray, List.set_cons_zero, List.set_cons_succ]
            refine wpAnyH_take (i := 9) (oi := { dst := some 19, op := Op.move (Operand.tmp 18), type := 4, pos := "ref.go:20", after := #[{ on := 8, ground := Ground.data }, { on := 6, ground := Ground.chain }, { on := 6, ground := Ground.guard }], guard := some (6, false) }) (v := ?_) rfl (by kernel_rfl) (by kernel_rfl) (by kernel_rfl) (fun _ _ _ h => h) (Or.inl ⟨by rfl, ?_⟩) hHeld ?_
            rotate_left
            · intro wz hSw
              go_simp
              all_goals (with_reducible rfl)
            try simp only [Act.put, List.setIfInBounds_toArray, List.set_cons_zero, List.set_cons_succ]
            refine wpAnyH_take (i := 10) (oi := { dst := some 20, op := Op.move (Operand.tmp 0), type := 31, pos := "ref.go:20", after := #[{ on := 9, ground := Ground.guard }], guard := some (9, true) }) (v := ?_) rfl (by kernel_rfl) (by kernel_rfl) (by kernel_rfl) (fun _ _ _ h => h) (Or.inl ⟨by rfl, ?_⟩) hHeld ?_
            rotate_left
            · intro wz hSw
              go_simp
              all_goals (with_reducible rfl)
            try simp only [Act.put, List.setIfInBounds_toArray, List.set_cons_zero, List.set_cons_succ]
            refine wpAnyH_take (i := 11) (oi := { dst := some 21, op := Op.move (Operand.tmp 3), type := 3, pos := "ref.go:20", after := #[{ on := 9, ground := Ground.guard }], guard := some (9, true) }) (v := ?_) rfl (by kernel_rfl) (by kernel_rfl) (by kernel_rfl) (fun _ _ _ h => h) (Or.inl ⟨by rfl, ?_⟩) hHeld ?_
            rotate_left
            · intro wz hSw
              go_simp
              all_goals (with_reducible rfl)
            try simp only [Act.put, List.setIfInBounds_toArray, List.set_cons_zero, List.set_cons_succ]
            refine wpAnyH_take (i := 12) (oi := { dst := some 22, op := Op.binOp BinOp.sub 3 (Operand.tmp 21) (Operand.const (Value.int IntKind.i64 1)) 3, type := 3, pos := "ref.go:20", after := #[{ on := 11, ground := Ground.data }, { on := 9, ground := Ground.guard }], guard := some (9, true) }) (v := ?_) rfl (by kernel_rfl) (by kernel_rfl) (by kernel_rfl) (fun _ _ _ h => h) (Or.inl ⟨by rfl, ?_⟩) hHeld ?_
            rotate_left
            · intro wz hSw
              go_simp
              all_goals (with_reducible rfl)
            try simp only [Act.put, List.setIfInBounds_toArray, List.set_cons_zero, List.set_cons_succ]
            refine wpAnyH_take (i := 13) (oi := { dst := some 23, op := Op.indexAddr 31 (Operand.tmp 20) (Operand.tmp 22), type := 0, pos := "ref.go:20", after := #[{ on := 10, ground := Ground.data }, { on := 12, ground := Ground.data }, { on := 9, ground := Ground.guard }], guard := some (9, true) }) (v := ?_) rfl (by kernel_rfl) (by kernel_rfl) (by kernel_rfl) (fun _ _ _ h => h) (Or.inl ⟨by rfl, ?_⟩) hHeld ?_
            rotate_left
            · intro wz hSw
              go_simp
              all_goals (with_reducible rfl)
            try simp only [Act.put, List.setIfInBounds_toArray, List.set_cons_zero, List.set_cons_succ]
            refine wpAnyH_take (i := 14) (oi := { dst := some 24, op := Op.fieldAddr 36 (Operand.tmp 23) 0, type := 0, pos := "ref.go:20", after := #[{ on := 13, ground := Ground.data }, { on := 9, ground := Ground.guard }], guard := some (9, true) }) (v := ?_) rfl (by kernel_rfl) (by kernel_rfl) (by kernel_rfl) (fun _ _ _ h => h) (Or.inl ⟨by rfl, ?_⟩) hHeld ?_
            rotate_left
            · intro wz hSw
              go_simp
              all_goals (with_reducible rfl)
            try simp only [Act.put, List.setIfInBounds_toArray, List.set_cons_zero, List.set_cons_succ]
            refine wpAnyH_take (i := 15) (oi := { dst := some 25, op := Op.load 3 (Operand.tmp 24), type := 3, pos := "ref.go:20", after := #[{ on := 14, ground := Ground.data }, { on := 9, ground := Ground.guard }], guard := some (9, true) }) (v := ?_) rfl (by kernel_rfl) (by kernel_rfl) (by kernel_rfl) (fun _ _ _ h => h) (Or.inl ⟨by rfl, ?_⟩) hHeld ?_
            rotate_left
            · intro wz hSw
              have q0 := hcq.out wz hSw
              go_simp
              all_goals (with_reducible rfl)
            try simp only [Act.put, List.setIfInBounds_toArray, List.set_cons_zero, List.set_cons_succ]
            refine wpAnyH_take (i := 16) (oi := { dst := some 26, op := Op.move (Operand.tmp 0), type := 31, pos := "ref.go:20", after := #[{ on := 9, ground := Ground.guard }], guard := some (9, true) }) (v := ?_) rfl (by kernel_rfl) (by kernel_rfl) (by kernel_rfl) (fun _ _ _ h => h) (Or.inl ⟨by rfl, ?_⟩) hHeld ?_
            rotate_left
            · intro wz hSw
              go_simp
              all_goals (with_reducible rfl)
            try simp only [Act.put, List.setIfInBounds_toArray, List.set_cons_zero, List.set_cons_succ]
            refine wpAnyH_take (i := 17) (oi := { dst := some 27, op := Op.move (Operand.tmp 3), type := 3, pos := "ref.go:20", after := #[{ on := 9, ground := Ground.guard }], guard := some (9, true) }) (v := ?_) rfl (by kernel_rfl) (by kernel_rfl) (by kernel_rfl) (fun _ _ _ h => h) (Or.inl ⟨by rfl, ?_⟩) hHeld ?_
            rotate_left
            · intro wz hSw
              go_simp
              all_goals (with_reducible rfl)
            try simp only [Act.put, List.setIfInBounds_toArray, List.set_cons_zero, List.set_cons_succ]
            refine wpAnyH_take (i := 18) (oi := { dst := some 28, op := Op.indexAddr 31 (Operand.tmp 26) (Operand.tmp 27), type := 0, pos := "ref.go:20", after := #[{ on := 16, ground := Ground.data }, { on := 17, ground := Ground.data }, { on := 9, ground := Ground.guard }], guard := some (9, true) }) (v := ?_) rfl (by kernel_rfl) (by kernel_rfl) (by kernel_rfl) (fun _ _ _ h => h) (Or.inl ⟨by rfl, ?_⟩) hHeld ?_
            rotate_left
            · intro wz hSw
              go_simp
              all_goals (with_reducible rfl)
            try simp only [Act.put, List.setIfInBounds_toArray, List.set_cons_zero, List.set_cons_succ]
            refine wpAnyH_take (i := 19) (oi := { dst := some 29, op := Op.fieldAddr 36 (Operand.tmp 28) 0, type := 0, pos := "ref.go:20", after := #[{ on := 18, ground := Ground.data }, { on := 9, ground := Ground.guard }], guard := some (9, true) }) (v := ?_) rfl (by kernel_rfl) (by kernel_rfl) (by kernel_rfl) (fun _ _ _ h => h) (Or.inl ⟨by rfl, ?_⟩) hHeld ?_
            rotate_left
            · intro wz hSw
              go_simp
              all_goals (with_reducible rfl)
            try simp only [Act.put, List.setIfInBounds_toArray, List.set_cons_zero, List.set_cons_succ]
            refine wpAnyH_take (i := 20) (oi := { dst := some 30, op := Op.load 3 (Operand.tmp 29), type := 3, pos := "ref.go:20", after := #[{ on := 19, ground := Ground.data }, { on := 9, ground := Ground.guard }], guard := some (9, true) }) (v := ?_) rfl (by kernel_rfl) (by kernel_rfl) (by kernel_rfl) (fun _ _ _ h => h) (Or.inl ⟨by rfl, ?_⟩) hHeld ?_
            rotate_left
            · intro wz hSw
              have q0 := hcx.out wz hSw
              go_simp
              all_goals (with_reducible rfl)
            try simp only [Act.put, List.setIfInBounds_toArray, List.set_cons_zero, List.set_cons_succ]
            refine wpAnyH_take (i := 21) (oi := { dst := some 31, op := Op.binOp BinOp.geq 3 (Operand.tmp 25) (Operand.tmp 30) 3, type := 4, pos := "ref.go:20", after := #[{ on := 15, ground := Ground.data }, { on := 20, ground := Ground.data }, { on := 9, ground := Ground.guard }], guard := some (9, true) }) (v := ?_) rfl (by kernel_rfl) (by kernel_rfl) (by kernel_rfl) (fun _ _ _ h => h) (Or.inl ⟨by rfl, ?_⟩) hHeld ?_
            rotate_left
            · intro wz hSw
              go_simp
              all_goals (with_reducible rfl)
            try simp only [Act.put, List.setIfInBounds_toArray, List.set_cons_zero, List.set_cons_succ]
            refine wpAnyH_take (i := 22) (oi := { dst := some 32, op := Op.pick (Operand.tmp 19) (Operand.tmp 31) (Operand.const (Value.bool false)), type := 4, pos := "ref.go:20", after := #[{ on := 9, ground := Ground.data }, { on := 21, ground := Ground.data }, { on := 6, ground := Ground.guard }], guard := some (6, false) }) (v := ?_) rfl (by kernel_rfl) (by kernel_rfl) (by kernel_rfl) (fun _ _ _ h => h) (Or.inl ⟨by rfl, ?_⟩) hHeld ?_
            rotate_left
            · intro wz hSw
              go_simp
              all_goals (with_reducible rfl)
            try simp only [Act.put, List.setIfInBounds_toArray, List.set_cons_zero, List.set_cons_succ]
            refine wpAnyH_take (i := 23) (oi := { dst := some 33, op := Op.pick (Operand.tmp 16) (Operand.const (Value.bool true)) (Operand.tmp 32), type := 4, pos := "ref.go:20", after := #[{ on := 6, ground := Ground.data }, { on := 22, ground := Ground.data }], guard := none }) (v := ?_) rfl (by kernel_rfl) (by kernel_rfl) (by kernel_rfl) (fun _ _ _ h => h) (Or.inl ⟨by rfl, ?_⟩) hHeld ?_
            rotate_left
            · intro wz hSw
              go_simp
              all_goals (with_reducible rfl)
            try simp only [Act.put, List.setIfInBounds_toArray, List.set_cons_zero, List.set_cons_succ]
            refine wpAnyH_done (by kernel_rfl) ?_ _
            have hb9 := Lib.hid hHeld
            clear hHeld
            go_wp2_with fail
            go_roundw
            case rel => exact ⟨k' + 1 + 1, x.dev, by omega, by go_num, hb9, hf2, hnx⟩
            case measure => simp [intOf]; omega
    · obtain rfl : n = k := by omega
      rw [List.drop_eq_nil_of_le (by omega)] at hf
      have hV2 : Hid (V = 0) := by show _ = _; rw [← hV.out, ← hf.out]; rfl
      go_wp2_with fail
      go_ret
      exact ⟨by rw [hV2.out]; rfl, hbr.out⟩
end Go.Proofs.YthhblcbnnmoojaaGreatDoor
namespace Go.Dr
/-- the reference's Set: a listing put into a list, in one pass. -/
def setGo (x : Lst) : List Lst → Bool → List Lst
  | [], dn => if dn then [] else [x]
  | y :: t, dn => (if !dn && decide (x.dev ≤ y.dev) then [x] else []) ++ (if decide (y.dev = x.dev) then [] else [y]) ++ setGo x t (dn || decide (x.dev ≤ y.dev))
theorem setGo_done {x : Lst} : ∀ {l : List Lst} {p : Int}, chkGo p l = true → x.dev ≤ p → setGo x l true = l
  | [], _, _, _ => rfl
  | y :: t, p, h, hp => by
    unfold chkGo at h
    simp only [Bool.and_eq_true, decide_eq_true_iff] at h
    obtain ⟨⟨_, h1⟩, h2⟩ := h
    have hne : decide (y.dev = x.dev) = false := by simp; omega
    rw [setGo, Bool.not_true, Bool.false_and, if_neg (by simp), hne, if_neg (by simp), Bool.true_or, setGo_done h2 (by omega)]
    rfl
theorem setGo_eq {x : Lst} : ∀ {l : List Lst} {p : Int}, chkGo p l = true → setGo x l false = insL x l
  | [], _, _ => rfl
  | y :: t, p, h => by
    unfold chkGo at h
    simp only [Bool.and_eq_true, decide_eq_true_iff] at h
    obtain ⟨⟨_, h1⟩, h2⟩ := h
    rw [setGo, insL]
    by_cases c1 : y.dev < x.dev
    · have e1 : decide (x.dev ≤ y.dev) = false := by simp; omega
      have e2 : decide (y.dev = x.dev) = false := by simp; omega
      rw [e1, e2, if_pos c1, Bool.and_false, Bool.or_false, if_neg (by simp), if_neg (by simp), setGo_eq h2]
      rfl
    · have e1 : decide (x.dev ≤ y.dev) = true := by simp; omega
      rw [if_neg c1, e1, Bool.not_false, Bool.and_true, Bool.false_or, if_pos rfl]
      by_cases c2 : y.dev = x.dev
      · rw [if_pos c2, decide_eq_true c2, if_pos rfl, setGo_done h2 (by omega)]
        rfl
      · rw [if_neg c2, decide_eq_false c2, if_neg (by simp), setGo_done h2 (by omega)]
        rfl
/-- the reference's tree: all nodes from the last on; node n of 1024. -/
def leafR (l : List Lst) (d : Nat) : List Nat := match ofL l (d : Int) with | some x => listD x | none => noneD (d : Int)
def nodeR (l : List Lst) : Nat → Nat → List Nat
  | 0, n => leafD l ((n : Int) - 512)
  | k + 1, n => if 512 ≤ n then leafD l ((n : Int) - 512) else pairD (nodeR l k (2 * n)) (nodeR l k (2 * n + 1))
theorem nodeR_up {l : List Lst} : ∀ {k k2 n : Nat}, 512 ≤ n * 2 ^ k → 512 ≤ n * 2 ^ k2 → nodeR l k n = nodeR l k2 n
  | 0, 0, _, _, _ => rfl
  | 0, k2 + 1, n, h, _ => by rw [nodeR, nodeR, if_pos (by omega)]
  | k + 1, 0, n, _, h => by rw [nodeR, nodeR, if_pos (by omega)]
  | k + 1, k2 + 1, n, h1, h2 => by
    rw [nodeR, nodeR]
    split
    · rfl
    · rw [nodeR_up (k := k) (k2 := k2) (n := 2 * n) (by rw [Nat.pow_succ] at h1; rw [Nat.mul_comm 2 n, Nat.mul_assoc, Nat.mul_comm 2]; exact h1) (by rw [Nat.pow_succ] at h2; rw [Nat.mul_comm 2 n, Nat.mul_assoc, Nat.mul_comm 2]; exact h2),
        nodeR_up (k := k) (k2 := k2) (n := 2 * n + 1) (by rw [Nat.pow_succ] at h1; rw [Nat.add_mul, Nat.mul_comm 2 n, Nat.mul_assoc, Nat.mul_comm 2]; omega) (by rw [Nat.pow_succ] at h2; rw [Nat.add_mul, Nat.mul_comm 2 n, Nat.mul_assoc, Nat.mul_comm 2]; omega)]
/-- a node's digest, by its number. -/
def numD (l : List Lst) (n : Nat) : List Nat := nodeR l 9 n
theorem numD_leaf {l : List Lst} {n : Nat} (h : 512 ≤ n) : numD l n = leafD l ((n : Int) - 512) := by unfold numD; rw [nodeR, if_pos h]
theorem numD_pair {l : List Lst} {n : Nat} (h1 : 1 ≤ n) (h : n < 512) : numD l n = pairD (numD l (2 * n)) (numD l (2 * n + 1)) := by
  unfold numD
  rw [nodeR, if_neg (by omega), nodeR_up (k := 8) (k2 := 9) (n := 2 * n) (by omega) (by omega), nodeR_up (k := 8) (k2 := 9) (n := 2 * n + 1) (by omega) (by omega)]
theorem nodeD_num {l : List Lst} : ∀ (d n : Nat), 512 ≤ n * 2 ^ d → n * 2 ^ d < 1024 → nodeD l d n = nodeR l d n
  | 0, n, _, _ => rfl
  | d + 1, n, h1, h2 => by
    have hn : ¬ 512 ≤ n := by
      intro h
      have : 512 * 2 ^ (d + 1) ≤ n * 2 ^ (d + 1) := Nat.mul_le_mul_right _ h
      have h3 : 2 ≤ 2 ^ (d + 1) := by rw [Nat.pow_succ]; have := Nat.one_le_two_pow (n := d); omega
      have h4 : 512 * 2 ≤ 512 * 2 ^ (d + 1) := Nat.mul_le_mul_left _ h3
      omega
    have e : ∀ m, m * 2 ^ (d + 1) = 2 * m * 2 ^ d := fun m => by rw [Nat.pow_succ, Nat.mul_comm (2 ^ d) 2, ← Nat.mul_assoc, Nat.mul_comm m 2]
    have hp := Nat.one_le_two_pow (n := d)
    have hev : (2 * n + 1) * 2 ^ d < 1024 := by
      rw [e] at h2
      rcases Nat.lt_or_ge d 10 with hd | hd
      · have hdiv : ∃ c, 1024 = c * 2 ^ d ∧ c % 2 = 0 := by
          rcases Nat.lt_or_ge d 10 with _ | _
          · refine ⟨2 ^ (10 - d), by rw [← Nat.pow_add]; rw [show 10 - d + d = 10 by omega], ?_⟩
            rw [show 10 - d = (9 - d) + 1 by omega, Nat.pow_succ]; omega
          · omega
        obtain ⟨c, hc, hc2⟩ := hdiv
        rw [hc] at h2 ⊢
        have := Nat.lt_of_mul_lt_mul_right h2
        exact Nat.mul_lt_mul_of_pos_right (by omega) (by omega)
      · exfalso
        have : 2 ^ 10 ≤ 2 ^ d := Nat.pow_le_pow_right (by omega) hd
        have hn1 : 1 ≤ n := by rcases Nat.eq_zero_or_pos n with h | h; · subst h; simp at h1
                               · exact h
        have : 1 * 2 ^ d ≤ 2 * n * 2 ^ d := Nat.mul_le_mul_right _ (by omega)
        omega
    rw [nodeD, nodeR, if_neg hn, nodeD_num d (2 * n) (by rw [← e]; exact h1) (by rw [← e]; exact h2),
      nodeD_num d (2 * n + 1) (by rw [e] at h1; rw [Nat.add_mul]; omega) hev]
theorem rootD_num (l : List Lst) : rootD l = numD l 1 := by
  unfold rootD numD
  exact nodeD_num 9 1 (by decide) (by decide)
end Go.Dr
namespace Go.Proofs.YthhblcbnnmoojaaGreatDoor
open Go.RowKit Go.Mem
open Go.Dr (Lst Rt)

/-- a digest in a row of digests. -/
def RowAt (cs : List Value) (j : Nat) (d : List Nat) : Prop := ∀ (i : Nat) u, (bv d)[i]? = some u → cs[j * 32 + i]? = some u
def setRow (cs : List Value) (k : Nat) (r : List Value) : List Value := cs.take (k * 32) ++ r ++ cs.drop (k * 32 + 32)
theorem setRow_length {cs : List Value} {k : Nat} {r : List Value} (hr : r.length = 32) (hk : k * 32 + 32 ≤ cs.length) : (setRow cs k r).length = cs.length := by
  unfold setRow; simp only [List.length_append, List.length_take, List.length_drop, hr]; omega
theorem rowAt_same {cs : List Value} {k : Nat} {d : List Nat} (hk : k * 32 + 32 ≤ cs.length) : RowAt (setRow cs k (bv d)) k d := fun i u hu => by
  have hi := (List.getElem?_eq_some_iff.1 hu).1
  unfold setRow
  rw [List.append_assoc, List.getElem?_append_right (by rw [List.length_take]; omega), List.length_take, Nat.min_eq_left (by omega), Nat.add_sub_cancel_left, List.getElem?_append_left hi]
  exact hu
theorem rowAt_other {cs : List Value} {j k : Nat} {d : List Nat} {r : List Value} (hd : d.length = 32) (hr : r.length = 32) (hk : k * 32 + 32 ≤ cs.length) (hjk : j ≠ k) (h : RowAt cs j d) : RowAt (setRow cs k r) j d := fun i u hu => by
  have hi := (List.getElem?_eq_some_iff.1 hu).1
  rw [bv_length, hd] at hi
  have hc := h i u hu
  unfold setRow
  rcases Nat.lt_or_gt_of_ne hjk with hl | hl
  · rw [List.append_assoc, List.getElem?_append_left (by rw [List.length_take]; omega), List.getElem?_take_of_lt (by omega)]
    exact hc
  · rw [List.getElem?_append_right (by rw [List.length_append, List.length_take, hr]; omega), List.length_append, List.length_take, hr, Nat.min_eq_left (by omega), List.getElem?_drop, show k * 32 + 32 + (j * 32 + i - (k * 32 + 32)) = j * 32 + i by omega]
    exact hc
theorem rowAt_rng {W : World} {g j : Nat} {t : TypeId} {cs : List Value} {d : List Nat} (h : Blk W g t cs) (hr : RowAt cs j d) : W.rangeAt g (j * 32) (bv d) := fun i u hu => h.at_ (hr i u hu)
theorem put_at {W : World} {g k : Nat} {t : TypeId} {cs r : List Value} (h : Blk W g t cs) (hr : r.length = 32) (hk : k * 32 + 32 ≤ cs.length) :
    Blk (W.setCells g (k * 32) r) g t (setRow cs k r) ∧ W.grownBy (W.setCells g (k * 32) r) (some g) ∧ W.there g (k * 32) r.toArray.size := by
  have e : cs = cs.take (k * 32) ++ (cs.drop (k * 32)).take 32 ++ cs.drop (k * 32 + 32) := by
    rw [List.append_assoc, ← List.drop_drop, List.take_append_drop, List.take_append_drop]
  refine ⟨?_, grown_setCells r (World.grownBy.refl W _), fun j hj => ?_⟩
  · have h' := h
    rw [e] at h'
    have := Blk.setCells r (pre := cs.take (k * 32)) (mid := (cs.drop (k * 32)).take 32) (post := cs.drop (k * 32 + 32)) h' (by rw [List.length_take, List.length_drop, hr]; omega)
    rw [List.length_take, Nat.min_eq_left (by omega)] at this
    exact this
  · rw [List.size_toArray, hr] at hj
    exact ⟨by rw [h.at_ (List.getElem?_eq_getElem (show k * 32 + j < cs.length by omega))]; rfl, h.frozen _⟩
theorem mk1024 (W : World) : ∃ C : List Value, C.length = 32768 ∧ (Instr.makeSlice 66 (.int .i64 1024) (.int .i64 1024)).run Tryz.prog W = .ok (.slice (some ⟨W.heap.size, 0, none⟩) 1024 1024) (W.alloc (.cells C.toArray 23)) := by
  obtain ⟨i0, hi, ⟨z, hz0, hzs⟩, hz1, hz2⟩ := info_partsD
  have h := run_makeSlice (P := Tryz.prog) (w := W) 66 23 i0 z Tryz.underlying66 hi hz0 .i64 .i64 1024 1024 (by omega) (by omega) (by rw [hz1]; decide) (by rw [hz2]; decide) (by omega)
  refine ⟨(madeCells z.cells ((1024 : Int).toNat * i0.size)).toList, ?_, ?_⟩
  · rw [Array.length_toList, size_madeCells, hz1]; rfl
  · rw [Array.toArray_toList]; exact h
/-- the state of nodes' reckoning. -/
def NdW (w : World) (nb : Nat) (cs : List Value) (wz : World) : Prop := Blk wz nb 23 cs ∧ cs.length = 32768 ∧ Below w.heap.size w wz ∧ w.heap.size ≤ nb
section
variable {w wz wq : World} {nb k : Nat} {cs r : List Value}
theorem NdW.next (hb : Below wz.heap.size wz wq) (h : NdW w nb cs wz) : NdW w nb cs wq := ⟨h.1.below hb h.1.lt, h.2.1, h.2.2.1.trans (hb.mono h.2.2.1.size), h.2.2.2⟩
theorem NdW.put (h : NdW w nb cs wz) (hr : r.length = 32) (hk : k < 1024) : NdW w nb (setRow cs k r) (wz.setCells nb (k * 32) r) := by
  have hk' : k * 32 + 32 ≤ cs.length := by rw [h.2.1]; omega
  obtain ⟨h1, h2, _⟩ := put_at h.1 hr hk'
  exact ⟨h1, (setRow_length hr hk').trans h.2.1, below_grown h.2.2.1 h2 h.2.2.1.size h.2.2.2, h.2.2.2⟩
theorem NdW.there (h : NdW w nb cs wz) (hr : r.length = 32) (hk : k < 1024) : wz.there nb (k * 32) r.toArray.size := (put_at h.1 hr (by rw [h.2.1]; omega)).2.2
end
theorem leafD_eq (l : List Lst) (d : Int) : (∃ x, Go.Dr.ofL l d = some x ∧ Go.Dr.leafOf x false = Go.Dr.leafD l d) ∨ (Go.Dr.ofL l d = none ∧ Go.Dr.leafOf ⟨d, 0, 0, 0, false⟩ true = Go.Dr.leafD l d) := by
  unfold Go.Dr.leafD
  cases h : Go.Dr.ofL l d with
  | none => exact .inr ⟨rfl, rfl⟩
  | some x => exact .inl ⟨x, rfl, rfl⟩
theorem leafD_dig (l : List Lst) (d : Int) : Dig (Go.Dr.leafD l d) := by
  unfold Go.Dr.leafD; split <;> exact ⟨Sha.tagged_length _ _, Sha.tagged_lt _ _⟩
theorem numD_dig (l : List Lst) (n : Nat) : Dig (Go.Dr.numD l n) := by
  unfold Go.Dr.numD; rw [Go.Dr.nodeR]; split
  · exact leafD_dig _ _
  · exact ⟨Sha.tagged_length _ _, Sha.tagged_lt _ _⟩

set_option maxRecDepth 100000 in
set_option maxHeartbeats 8000000 in
theorem r35nodes_any (K : Nat → Prop) (a : Option Addr) (n c : Nat) (l : List Lst) (w : World) (H : GS K w a n c l) :
    Calls Tryz.prog 68 #[.slice a n c] w (fun e w' => ∃ (nb : Nat) (cs : List Value), e = .returned (.slice (some ⟨nb, 0, none⟩) 1024 1024) ∧ NdW w nb cs w' ∧ RowAt cs 1 (Go.Dr.rootD l)) := by
  obtain ⟨X, hX⟩ : ∃ X, Hid (X = fun e w' => ∃ (nb : Nat) (cs : List Value), e = Ending.returned (.slice (some ⟨nb, 0, none⟩) 1024 1024) ∧ NdW w nb cs w' ∧ RowAt cs 1 (Go.Dr.rootD l)) := ⟨_, rfl⟩
  rw [← hX.out]
  have H' := Lib.hid H
  clear H
  obtain ⟨nb, hnb⟩ : ∃ nb, Hid (w.heap.size = nb) := ⟨_, rfl⟩
  obtain ⟨C, hCl, hmk⟩ := mk1024 w
  have hN0 : Hid (NdW w nb C (w.alloc (.cells C.toArray 23))) := ⟨by rw [← hnb.out]; exact Blk.new w _ C, hCl, (Below.refl _ w).alloc (Nat.le_refl _) _, Nat.le_of_eq hnb.out⟩
  have hmk' := Lib.hid hmk
  clear hmk hCl
  go_enter Tryz.func68, Tryz.ntmps68
  go_wp2_with fail
  rw [hmk'.out, hnb.out]
  generalize World.alloc w _ = W0 at *
  clear hmk'
  go_simp
  go_wp2_with fail
  go_loopw [4] (fun i wr => ∃ (k : Nat) (cs : List Value), k ≤ 512 ∧ i = .int .i64 (k : Int) ∧ Hid (NdW w nb cs wr) ∧ Hid (∀ j : Nat, j < k → RowAt cs (512 + j) (Go.Dr.leafD l (j : Int)))) (fun i _ => 512 - (intOf i).toNat)
  case atStart => exact ⟨0, C, by omega, rfl, hN0, fun j hj => absurd hj (by omega)⟩
  case round =>
    obtain ⟨k, cs, hk, rfl, hN, hrows⟩ := hrel
    clear hN0
    by_cases hlt : k < 512
    · have k0 : (0 : Int) ≤ (k : Int) := by omega
      have k1 : (k : Int) < 512 := by omega
      obtain ⟨D, hDD⟩ : ∃ D, Hid (bv (Go.Dr.leafD l (k : Int)) = D) := ⟨_, rfl⟩
      have hDl : Hid (D.length = 32) := by show _ = _; rw [← hDD.out, bv_length]; exact (leafD_dig _ _).1
      have hD1 : Hid (D.toArray.all (·.oneCell') = true) := by show _ = _; rw [← hDD.out]; exact all_oneCell_toArray (bv_one _)
      have hDi : Hid ((Tryz.prog.info? 23).map (·.size) = some D.toArray.size) := by show _ = _; rw [List.size_toArray, hDl.out]; exact size35
      have hNr : ∀ wq, NdW w nb cs wq → Hid (∃ cs2, NdW w nb cs2 (wq.setCells nb ((512 + k) * 32) D) ∧ ∀ j : Nat, j < k + 1 → RowAt cs2 (512 + j) (Go.Dr.leafD l (j : Int))) := fun wq h => by
        refine ⟨setRow cs (512 + k) D, h.put hDl.out (by omega), fun j hj => ?_⟩
        rcases Nat.lt_or_eq_of_le (Nat.le_of_lt_succ hj) with hl | rfl
        · exact rowAt_other (leafD_dig _ _).1 hDl.out (by rw [h.2.1]; omega) (by omega) (hrows.out j hl)
        · rw [← hDD.out]; exact rowAt_same (by rw [h.2.1]; omega)
      have hNr' := Lib.hid hNr
      clear hNr hrows
      go_wp2_with fail
      refine (r35of_any K a n c l (k : Int) wr (H'.out.below hN.out.2.2.1)).mono ?_
      rintro e w1 ⟨rfl, hb1⟩
      have hN1 := Lib.hid (hN.out.next hb1)
      clear hb1 hN
      obtain ⟨lb, hlb⟩ : ∃ lb, Hid (w1.heap.size = lb) := ⟨_, rfl⟩
      have hnl : nb < lb := by rw [← hlb.out]; exact hN1.out.1.lt
      have hA : Hid (Blk (w1.alloc (.cells (gC Go.Dr.zeroL).toArray 36)) lb 36 (gC Go.Dr.zeroL)) := by rw [← hlb.out]; exact Blk.new w1 _ _
      have hNa : Hid (NdW w nb cs (w1.alloc (.cells (gC Go.Dr.zeroL).toArray 36))) := hN1.out.next ((Below.refl _ w1).alloc (Nat.le_refl _) _)
      have hgx : ∀ x : Lst, Hid (∃ W4, (w1.alloc (.cells (gC Go.Dr.zeroL).toArray 36)).setCells lb 0 (gC x) = W4 ∧ Put 36 (w1.alloc (.cells (gC Go.Dr.zeroL).toArray 36)) lb 36 (gC x) ∧ Blk W4 lb 36 (gC x) ∧ NdW w nb cs W4) := fun x => by
        have hP := put_g x hA.out
        exact ⟨_, rfl, hP, hP.blk, hNa.out.1.grown hP.grw (fun e => by injection e with e; omega), hNa.out.2.1, below_grown hNa.out.2.2.1 hP.grw hNa.out.2.2.1.size (by have := hNa.out.2.2.2; omega), hNa.out.2.2.2⟩
      rcases leafD_eq l (k : Int) with ⟨x, hx, hlf⟩ | ⟨hx, hlf⟩
      · have hz : Go.Dr.ofZ l (k : Int) = x := by unfold Go.Dr.ofZ; rw [hx]; rfl
        rw [hz, hx, show (some x).isSome = true from rfl]
        obtain ⟨W4, hW4, hP, hB4, hN4⟩ := (hgx x).out
        have hP' := Lib.hid hP; have hrg4 := Lib.hid hB4.range; have hN4' := Lib.hid hN4; have hW4' := Lib.hid hW4
        have hlf' := Lib.hid (fun W => r35leaf_any x false W)
        unfold DigPost at hlf'
        rw [hlf, hDD.out] at hlf'
        have hi := Lib.hid (show (Tryz.prog.info? 36).map (·.size) = some (gC x).length from sizeG)
        obtain ⟨r, hr⟩ : ∃ r, Hid (gC x = r) := ⟨_, rfl⟩
        rw [hr.out] at hP' hrg4 hW4' hlf' hi ⊢
        clear hx hlf hz hP hB4 hN4 hW4 hgx hA hNa hN1 hDD
        go_wp2_with (first
          | (rw [hlb.out]; refine wpList_store_mid (by rfl) 36 (.tmp 5) (.tmp 17) (by rfl) lb 0 r.toArray (by rfl) (by rfl) hP'.out.th hP'.out.inf hP'.out.one ?_; generalize hWq : World.setCells _ _ _ _ = Wq; obtain rfl : W4 = Wq := by { rw [← hWq]; exact hW4'.out.symm }; clear hWq)
          | (refine wpList_load_mid (by rfl) 36 (.tmp 5) rfl lb 0 rfl r _ hrg4.out Tryz.underlying36 rfl hi.out ?_))
        refine (hlf'.out W4).mono ?_
        rintro e w5 ⟨rfl, hb5⟩
        have hN5 := hN4'.out.next hb5
        have hth := Lib.hid (NdW.there (k := 512 + k) hN5 hDl.out (by omega))
        obtain ⟨cs2, hN6', hrw6'⟩ := (hNr'.out w5 hN5).out
        have hN6 := Lib.hid hN6'; have hrw6 := Lib.hid hrw6'
        have kb0 : (0 : Int) ≤ 512 + (k : Int) := by omega
        have kb1 : 512 + (k : Int) < 1024 := by omega
        clear hb5 hN5 hN6' hrw6' hNr'
        go_wp2_with (first
          | (refine wpList_store_mid (by rfl) 23 (.tmp 30) (.tmp 29) (by rfl) nb ((512 + k) * 32) D.toArray (by rfl) (by rfl) hth.out hDi.out hD1.out ?_))
        go_roundw
        case rel => exact ⟨k + 1, cs2, by omega, by go_num, hN6, hrw6⟩
        case measure => simp [intOf]; omega
      · have hz : Go.Dr.ofZ l (k : Int) = Go.Dr.zeroL := by unfold Go.Dr.ofZ; rw [hx]; rfl
        rw [hz, hx, show (none : Option Lst).isSome = false from rfl]
        obtain ⟨W4, hW4, hP, hB4, hN4⟩ := (hgx Go.Dr.zeroL).out
        have hP2 := Lib.hid (put_g ⟨(k : Int), 0, 0, 0, false⟩ hB4)
        obtain ⟨W5, hW5⟩ : ∃ W5, W4.setCells lb 0 (gC ⟨(k : Int), 0, 0, 0, false⟩) = W5 := ⟨_, rfl⟩
        have hB5 : Blk W5 lb 36 (gC ⟨(k : Int), 0, 0, 0, false⟩) := by rw [← hW5]; exact hP2.out.blk
        have hN4' : Hid (NdW w nb cs W5) := by
          rw [← hW5]
          exact ⟨hN4.1.grown hP2.out.grw (fun e => by injection e with e; omega), hN4.2.1, below_grown hN4.2.2.1 hP2.out.grw hN4.2.2.1.size (by have := hN4.2.2.2; omega), hN4.2.2.2⟩
        have hP' := Lib.hid hP; have hrg4 := Lib.hid hB5.range; have hW4' := Lib.hid hW4; have hW5' := Lib.hid hW5
        have hlf' := Lib.hid (fun W => r35leaf_any ⟨(k : Int), 0, 0, 0, false⟩ true W)
        unfold DigPost at hlf'
        rw [hlf, hDD.out] at hlf'
        have hi := Lib.hid (show (Tryz.prog.info? 36).map (·.size) = some (gC ⟨(k : Int), 0, 0, 0, false⟩).length from sizeG)
        have hbd := Lib.hid (rfl : (Value.agg #[.int .i64 (k : Int), .int .i64 0, .int .i64 0, .int .i64 0, .bool false]) = .agg (gC ⟨(k : Int), 0, 0, 0, false⟩).toArray)
        clear hx hlf hz hP hB4 hN4 hW4 hW5 hB5 hgx hA hNa hN1 hDD
        go_wp2_with (first
          | (rw [hlb.out]; refine wpList_store_mid (by rfl) 36 (.tmp 5) (.tmp 17) (by rfl) lb 0 (gC Go.Dr.zeroL).toArray (by rfl) (by rfl) hP'.out.th hP'.out.inf hP'.out.one ?_; generalize hWq : World.setCells _ _ _ _ = Wq; obtain rfl : W4 = Wq := by { rw [← hWq]; exact hW4'.out.symm }; clear hWq)
          | (refine wpList_store_mid (by rfl) 36 (.tmp 5) (.tmp 22) (by rfl) lb 0 (gC ⟨(k : Int), 0, 0, 0, false⟩).toArray (by rfl) (by rfl) hP2.out.th hP2.out.inf hP2.out.one ?_; generalize hWq : World.setCells _ _ _ _ = Wq; obtain rfl : W5 = Wq := by { rw [← hWq]; exact hW5'.out.symm }; clear hWq)
          | (refine wpList_load_mid (by rfl) 36 (.tmp 5) rfl lb 0 rfl (gC ⟨(k : Int), 0, 0, 0, false⟩) _ hrg4.out Tryz.underlying36 rfl hi.out ?_))
        refine (hlf'.out W5).mono ?_
        rintro e w5 ⟨rfl, hb5⟩
        have hN5 := hN4'.out.next hb5
        have hth := Lib.hid (NdW.there (k := 512 + k) hN5 hDl.out (by omega))
        obtain ⟨cs2, hN6', hrw6'⟩ := (hNr'.out w5 hN5).out
        have hN6 := Lib.hid hN6'; have hrw6 := Lib.hid hrw6'
        have kb0 : (0 : Int) ≤ 512 + (k : Int) := by omega
        have kb1 : 512 + (k : Int) < 1024 := by omega
        clear hb5 hN5 hN6' hrw6' hNr'
        go_wp2_with (first
          | (refine wpList_store_mid (by rfl) 23 (.tmp 30) (.tmp 29) (by rfl) nb ((512 + k) * 32) D.toArray (by rfl) (by rfl) hth.out hDi.out hD1.out ?_))
        go_roundw
        case rel => exact ⟨k + 1, cs2, by omega, by go_num, hN6, hrw6⟩
        case measure => simp [intOf]; omega
    · obtain rfl : k = 512 := by omega
      have hN2 := hN
      have hnum : Hid (∀ j : Nat, 511 < j → j < 1024 → RowAt cs j (Go.Dr.numD l j)) := fun j h1 h2 => by
        have := hrows.out (j - 512) (by omega)
        rw [show 512 + (j - 512) = j by omega] at this
        rw [Go.Dr.numD_leaf (by omega)]
        rwa [show ((j - 512 : Nat) : Int) = (j : Int) - 512 by omega] at this
      clear hrows hN hk
      rw [show ((512 : Nat) : Int) = 512 from rfl]
      go_wp2_with fail
      go_loopw [7] (fun i wq => ∃ (k : Nat) (cs : List Value), k ≤ 511 ∧ i = .int .i64 (k : Int) ∧ Hid (NdW w nb cs wq) ∧ Hid (∀ j : Nat, k < j → j < 1024 → RowAt cs j (Go.Dr.numD l j))) (fun i _ => (intOf i).toNat)
      case atStart => exact ⟨511, cs, by omega, rfl, hN2, hnum⟩
      case round =>
        clear hN2 hnum
        obtain ⟨k, cs, hk, rfl, hN, hnum⟩ := hrel
        by_cases h1 : 1 ≤ k
        · have k1 : (1 : Int) ≤ (k : Int) := by omega
          have k2 : (k : Int) ≤ 511 := by omega
          obtain ⟨kn, hkn⟩ : ∃ kn, 2 * k = kn := ⟨_, rfl⟩
          obtain ⟨km, hkm⟩ : ∃ km, kn + 1 = km := ⟨_, rfl⟩
          have hw2 : IntKind.i64.wrap (2 * (k : Int)) = (kn : Int) := by rw [IntWalk.i64_in _ ⟨by omega, by omega⟩]; omega
          have hw3 : IntKind.i64.wrap ((kn : Int) + 1) = (km : Int) := by rw [IntWalk.i64_in _ ⟨by omega, by omega⟩]; omega
          have k3 : (kn : Int) < 1024 := by omega
          have k4 : (km : Int) < 1024 := by omega
          have k5 : (0 : Int) ≤ (kn : Int) := by omega
          have k6 : (0 : Int) ≤ (km : Int) := by omega
          have hkq : Hid (k < kn ∧ k < km ∧ kn < 1024 ∧ km < 1024) := by show _ ∧ _; omega
          have k7 : (0 : Int) ≤ (k : Int) := by omega
          have k8 : (k : Int) < 1024 := by omega
          have ra := hnum.out kn (by omega) (by omega)
          have rb := hnum.out km (by omega) (by omega)
          have hpr := Lib.hid (fun W => r35pair_any (Go.Dr.numD l kn) (Go.Dr.numD l km) (numD_dig _ _).1 (numD_dig _ _).1 (numD_dig _ _).2 (numD_dig _ _).2 W)
          unfold DigPost at hpr
          rw [← hkm, ← hkn, ← Go.Dr.numD_pair h1 (by omega), hkn, hkm] at hpr
          obtain ⟨D, hDD⟩ : ∃ D, Hid (bv (Go.Dr.numD l k) = D) := ⟨_, rfl⟩
          obtain ⟨DA, hDA⟩ : ∃ D, Hid (bv (Go.Dr.numD l kn) = D) := ⟨_, rfl⟩
          obtain ⟨DB, hDB⟩ : ∃ D, Hid (bv (Go.Dr.numD l km) = D) := ⟨_, rfl⟩
          have hDl : Hid (D.length = 32) := by show _ = _; rw [← hDD.out, bv_length]; exact (numD_dig _ _).1
          have hD1 : Hid (D.toArray.all (·.oneCell') = true) := by show _ = _; rw [← hDD.out]; exact all_oneCell_toArray (bv_one _)
          have hDi : Hid ((Tryz.prog.info? 23).map (·.size) = some D.toArray.size) := by show _ = _; rw [List.size_toArray, hDl.out]; exact size35
          have hAi : Hid ((Tryz.prog.info? 23).map (·.size) = some DA.length) := by show _ = _; rw [← hDA.out, bv_length, (numD_dig _ _).1]; exact size35
          have hBi : Hid ((Tryz.prog.info? 23).map (·.size) = some DB.length) := by show _ = _; rw [← hDB.out, bv_length, (numD_dig _ _).1]; exact size35
          have hRG : Hid (∀ wz cs', NdW w nb cs' wz → (∀ j : Nat, k < j → j < 1024 → RowAt cs' j (Go.Dr.numD l j)) → wz.rangeAt nb (kn * 32) DA ∧ wz.rangeAt nb (km * 32) DB) := fun wz cs' h h' => by
            rw [← hDA.out, ← hDB.out]; exact ⟨rowAt_rng h.1 (h' _ hkq.out.1 hkq.out.2.2.1), rowAt_rng h.1 (h' _ hkq.out.2.1 hkq.out.2.2.2)⟩
          have hnum' := Lib.hid hnum.out
          rw [hDD.out, hDA.out, hDB.out] at hpr
          have hNr : Hid (∀ wq, NdW w nb cs wq → ∃ cs2, NdW w nb cs2 (wq.setCells nb (k * 32) D) ∧ ∀ j : Nat, k - 1 < j → j < 1024 → RowAt cs2 j (Go.Dr.numD l j)) := fun wq h => by
            refine ⟨setRow cs k D, h.put hDl.out (by omega), fun j hj1 hj2 => ?_⟩
            rcases Nat.lt_or_ge k j with hl | hl
            · exact rowAt_other (numD_dig _ _).1 hDl.out (by rw [h.2.1]; omega) (by omega) (hnum.out j hl hj2)
            · obtain rfl : j = k := by omega
              rw [← hDD.out]; exact rowAt_same (by rw [h.2.1]; omega)
          clear ra rb hnum hDD hDA hDB hkn hkm
          go_wp2_with fail
          refine wp_region_held_drew (S := fun wz => wz.rangeAt nb (kn * 32) DA ∧ wz.rangeAt nb (km * 32) DB) (by kernel_rfl) (hRG.out wr.drew cs (hN.out.next ((Below.refl _ wr).drew)) hnum'.out) (fun hHeld => ?_)
          have hNd : NdW w nb cs wr.drew := hN.out.next ((Below.refl _ wr).drew)
          generalize wr.drew = W0 at *
          refine wpAnyH_take (i := 0) (oi := { dst := some 35, op := Op.move (Operand.tmp 3), type := 66, pos := "ref.go:74", after := #[], guard := none }) (v := ?_) rfl (by kernel_rfl) (by kernel_rfl) (by kernel_rfl) (fun _ _ _ h => h) (Or.inl ⟨by rfl, ?_⟩) hHeld ?_
          rotate_left
          · intro wz hSw
            go_simp
            all_goals (with_reducible rfl)
          try simp only [Act.put, List.setIfInBounds_toArray, List.set_cons_zero, List.set_cons_succ]
          refine wpAnyH_take (i := 1) (oi := { dst := some 36, op := Op.move (Operand.tmp 7), type := 3, pos := "ref.go:74", after := #[], guard := none }) (v := ?_) rfl (by kernel_rfl) (by kernel_rfl) (by kernel_rfl) (fun _ _ _ h => h) (Or.inl ⟨by rfl, ?_⟩) hHeld ?_
          rotate_left
          · intro wz hSw
            go_simp
            all_goals (with_reducible rfl)
          try simp only [Act.put, List.setIfInBounds_toArray, List.set_cons_zero, List.set_cons_succ]
          refine wpAnyH_take (i := 2) (oi := { dst := some 37, op := Op.move (Operand.tmp 3), type := 66, pos := "ref.go:74", after := #[], guard := none }) (v := ?_) rfl (by kernel_rfl) (by kernel_rfl) (by kernel_rfl) (fun _ _ _ h => h) (Or.inl ⟨by rfl, ?_⟩) hHeld ?_
          rotate_left
          · intro wz hSw
            go_simp
            all_goals (with_reducible rfl)
          try simp only [Act.put, List.setIfInBounds_toArray, List.set_cons_zero, List.set_cons_succ]
          refine wpAnyH_take (i := 3) (oi := { dst := some 38, op := Op.move (Operand.tmp 7), type := 3, pos := "ref.go:74", after := #[], guard := none }) (v := ?_) rfl (by kernel_rfl) (by kernel_rfl) (by kernel_rfl) (fun _ _ _ h => h) (Or.inl ⟨by rfl, ?_⟩) hHeld ?_
          rotate_left
          · intro wz hSw
            go_simp
            all_goals (with_reducible rfl)
          try simp only [Act.put, List.setIfInBounds_toArray, List.set_cons_zero, List.set_cons_succ]
          refine wpAnyH_take (i := 4) (oi := { dst := some 39, op := Op.binOp BinOp.mul 3 (Operand.const (Value.int IntKind.i64 2)) (Operand.tmp 38) 3, type := 3, pos := "ref.go:74", after := #[{ on := 3, ground := Ground.data }], guard := none }) (v := ?_) rfl (by kernel_rfl) (by kernel_rfl) (by kernel_rfl) (fun _ _ _ h => h) (Or.inl ⟨by rfl, ?_⟩) hHeld ?_
          rotate_left
          · intro wz hSw
            go_simp
            all_goals (with_reducible rfl)
          try simp only [Act.put, List.setIfInBounds_toArray, List.set_cons_zero, List.set_cons_succ]
          refine wpAnyH_take (i := 5) (oi := { dst := some 40, op := Op.indexAddr 66 (Operand.tmp 37) (Operand.tmp 39), type := 0, pos := "ref.go:74", after := #[{ on := 2, ground := Ground.data }, { on := 4, ground := Ground.data }], guard := none }) (v := ?_) rfl (by kernel_rfl) (by kernel_rfl) (by kernel_rfl) (fun _ _ _ h => h) (Or.inl ⟨by rfl, ?_⟩) hHeld ?_
          rotate_left
          · intro wz hSw
            go_simp
            all_goals (with_reducible rfl)
          try simp only [Act.put, List.setIfInBounds_toArray, List.set_cons_zero, List.set_cons_succ]
          refine wpAnyH_take (i := 7) (oi := { dst := some 42, op := Op.move (Operand.tmp 3), type := 66, pos := "ref.go:74", after := #[], guard := none }) (v := ?_) rfl (by kernel_rfl) (by kernel_rfl) (by kernel_rfl) (fun _ _ _ h => h) (Or.inl ⟨by rfl, ?_⟩) hHeld ?_
          rotate_left
          · intro wz hSw
            go_simp
            all_goals (with_reducible rfl)
          try simp only [Act.put, List.setIfInBounds_toArray, List.set_cons_zero, List.set_cons_succ]
          refine wpAnyH_take (i := 8) (oi := { dst := some 43, op := Op.move (Operand.tmp 7), type := 3, pos := "ref.go:74", after := #[], guard := none }) (v := ?_) rfl (by kernel_rfl) (by kernel_rfl) (by kernel_rfl) (fun _ _ _ h => h) (Or.inl ⟨by rfl, ?_⟩) hHeld ?_
          rotate_left
          · intro wz hSw
            go_simp
            all_goals (with_reducible rfl)
          try simp only [Act.put, List.setIfInBounds_toArray, List.set_cons_zero, List.set_cons_succ]
          refine wpAnyH_take (i := 9) (oi := { dst := some 44, op := Op.binOp BinOp.mul 3 (Operand.const (Value.int IntKind.i64 2)) (Operand.tmp 43) 3, type := 3, pos := "ref.go:74", after := #[{ on := 8, ground := Ground.data }], guard := none }) (v := ?_) rfl (by kernel_rfl) (by kernel_rfl) (by kernel_rfl) (fun _ _ _ h => h) (Or.inl ⟨by rfl, ?_⟩) hHeld ?_
          rotate_left
          · intro wz hSw
            go_simp
            all_goals (with_reducible rfl)
          try simp only [Act.put, List.setIfInBounds_toArray, List.set_cons_zero, List.set_cons_succ]
          refine wpAnyH_take (i := 10) (oi := { dst := some 45, op := Op.binOp BinOp.add 3 (Operand.tmp 44) (Operand.const (Value.int IntKind.i64 1)) 3, type := 3, pos := "ref.go:74", after := #[{ on := 9, ground := Ground.data }], guard := none }) (v := ?_) rfl (by kernel_rfl) (by kernel_rfl) (by kernel_rfl) (fun _ _ _ h => h) (Or.inl ⟨by rfl, ?_⟩) hHeld ?_
          rotate_left
          · intro wz hSw
            go_simp
            all_goals (with_reducible rfl)
          try simp only [Act.put, List.setIfInBounds_toArray, List.set_cons_zero, List.set_cons_succ]
          refine wpAnyH_take (i := 11) (oi := { dst := some 46, op := Op.indexAddr 66 (Operand.tmp 42) (Operand.tmp 45), type := 0, pos := "ref.go:74", after := #[{ on := 7, ground := Ground.data }, { on := 10, ground := Ground.data }], guard := none }) (v := ?_) rfl (by kernel_rfl) (by kernel_rfl) (by kernel_rfl) (fun _ _ _ h => h) (Or.inl ⟨by rfl, ?_⟩) hHeld ?_
          rotate_left
          · intro wz hSw
            go_simp
            all_goals (with_reducible rfl)
          try simp only [Act.put, List.setIfInBounds_toArray, List.set_cons_zero, List.set_cons_succ]
          refine wpAnyH_take (i := 6) (oi := { dst := some 41, op := Op.load 23 (Operand.tmp 40), type := 23, pos := "ref.go:74", after := #[{ on := 5, ground := Ground.data }], guard := none }) rfl (by kernel_rfl) (by kernel_rfl) (by kernel_rfl) (fun _ _ _ h => h) (yieldsIf_load_mid (by rfl) _ _ rfl nb (kn * 32) rfl (DA) _ (fun wz h => h.1) Tryz.underlying23 rfl (hAi.out)) hHeld ?_
          try simp only [Act.put, List.setIfInBounds_toArray, List.set_cons_zero, List.set_cons_succ]
          refine wpAnyH_take (i := 12) (oi := { dst := some 47, op := Op.load 23 (Operand.tmp 46), type := 23, pos := "ref.go:74", after := #[{ on := 11, ground := Ground.data }], guard := none }) rfl (by kernel_rfl) (by kernel_rfl) (by kernel_rfl) (fun _ _ _ h => h) (yieldsIf_load_mid (by rfl) _ _ rfl nb (km * 32) rfl (DB) _ (fun wz h => h.2) Tryz.underlying23 rfl (hBi.out)) hHeld ?_
          try simp only [Act.put, List.setIfInBounds_toArray, List.set_cons_zero, List.set_cons_succ]
          refine wpAnyH_ready (rs := [13]) (by kernel_rfl) (by simp) ?_
          refine AllReadyH.cons (o := { dst := some 48, op := Op.call { callee := Callee.value (Operand.func 116), args := #[Operand.tmp 41, Operand.tmp 47], argTypes := #[23, 23] }, type := 23, pos := "ref.go:74", after := #[{ on := 6, ground := Ground.data }, { on := 12, ground := Ground.data }], guard := none }) rfl (fun K hK => ?_) AllReadyH.nil
          rw [if_pos (by rfl)]
          show Oper.wp _ _ _ _ K _
          go_simp
          go_at_call 116
          refine (hpr.out W0).mono ?_
          rintro e w5 ⟨rfl, hb5⟩
          have hN5 := hNd.next hb5
          have hth := Lib.hid (NdW.there (k := k) hN5 hDl.out (by omega))
          obtain ⟨cs2, hN6', hrw6'⟩ := hNr.out w5 hN5
          have hN6 := Lib.hid hN6'; have hrw6 := Lib.hid hrw6'
          refine hK.out _ _ (hRG.out _ cs hN5 hnum'.out) (fun hHeld => ?_)
          clear hb5 hN5 hN6' hrw6' hNr hNd
          clear hK K
          try simp only [Act.put, List.setIfInBounds_toArray, List.set_cons_zero, List.set_cons_succ]
          refine wpAnyH_take (i := 14) (oi := { dst := some 49, op := Op.indexAddr 66 (Operand.tmp 35) (Operand.tmp 36), type := 0, pos := "ref.go:74", after := #[{ on := 0, ground := Ground.data }, { on := 1, ground := Ground.data }, { on := 0, ground := Ground.phase }, { on := 1, ground := Ground.phase }, { on := 2, ground := Ground.phase }, { on := 3, ground := Ground.phase }, { on := 4, ground := Ground.phase }, { on := 5, ground := Ground.phase }, { on := 6, ground := Ground.phase }, { on := 7, ground := Ground.phase }, { on := 8, ground := Ground.phase }, { on := 9, ground := Ground.phase }, { on := 10, ground := Ground.phase }, { on := 11, ground := Ground.phase }, { on := 12, ground := Ground.phase }, { on := 13, ground := Ground.phase }], guard := none }) (v := ?_) rfl (by kernel_rfl) (by kernel_rfl) (by kernel_rfl) (fun _ _ _ h => h) (Or.inl ⟨by rfl, ?_⟩) hHeld ?_
          rotate_left
          · intro wz hSw
            go_simp
            all_goals (with_reducible rfl)
          try simp only [Act.put, List.setIfInBounds_toArray, List.set_cons_zero, List.set_cons_succ]
          refine wpAnyH_ready (rs := [15]) (by kernel_rfl) (by simp) ?_
          refine AllReadyH.cons (o := { dst := none, op := Op.store 23 (Operand.tmp 49) (Operand.tmp 48), type := 0, pos := "ref.go:74", after := #[{ on := 14, ground := Ground.data }, { on := 13, ground := Ground.data }, { on := 13, ground := Ground.chain }, { on := 0, ground := Ground.phase }, { on := 1, ground := Ground.phase }, { on := 2, ground := Ground.phase }, { on := 3, ground := Ground.phase }, { on := 4, ground := Ground.phase }, { on := 5, ground := Ground.phase }, { on := 6, ground := Ground.phase }, { on := 7, ground := Ground.phase }, { on := 8, ground := Ground.phase }, { on := 9, ground := Ground.phase }, { on := 10, ground := Ground.phase }, { on := 11, ground := Ground.phase }, { on := 12, ground := Ground.phase }, { on := 13, ground := Ground.phase }], guard := none }) rfl (fun K hK => ?_) AllReadyH.nil
          rw [if_pos (by rfl)]
          refine wp_store_mid 23 _ _ rfl nb (k * 32) D.toArray (by rfl) (by rfl) hth.out hDi.out hD1.out ?_
          refine hK.out _ _ (hRG.out _ cs2 hN6.out (fun j h1 h2 => hrw6.out j (by omega) h2)) (fun hHeld => ?_)
          clear hK K
          try simp only [Act.put]
          refine wpAnyH_done (by kernel_rfl) ?_ _
          go_wp2_with fail
          go_roundw
          case rel => exact ⟨k - 1, cs2, by omega, by congr 1; omega, hN6, hrw6⟩
          case measure => simp [intOf]; omega
        · obtain rfl : k = 0 := by omega
          have hend : Hid (X (.returned (.slice (some ⟨nb, 0, none⟩) 1024 1024)) wr) := by
            show X _ _
            rw [hX.out]
            exact ⟨nb, cs, rfl, hN.out, by have := hnum.out 1 (by omega) (by omega); rwa [← Go.Dr.rootD_num] at this⟩
          rw [show ((0 : Nat) : Int) = 0 from rfl]
          go_wp2_with fail
          exact hend.out

theorem rootD_dig (l : List Lst) : Dig (Go.Dr.rootD l) := by rw [Go.Dr.rootD_num]; exact numD_dig _ _
set_option maxRecDepth 20000 in
set_option maxHeartbeats 2000000 in
theorem r35digest_any (K : Nat → Prop) (a : Option Addr) (n c : Nat) (l : List Lst) (w : World) (H : GS K w a n c l) :
    Calls Tryz.prog 25 #[.slice a n c] w (DigPost (Go.Dr.rootD l) w) := by
  obtain ⟨X, hX⟩ : ∃ X, Hid (X = DigPost (Go.Dr.rootD l) w) := ⟨_, rfl⟩
  rw [← hX.out]
  have H' := Lib.hid H
  clear H
  obtain ⟨tb, htb⟩ : ∃ tb, Hid (w.heap.size = tb) := ⟨_, rfl⟩
  obtain ⟨D, hDD⟩ : ∃ D, Hid (bv (Go.Dr.rootD l) = D) := ⟨_, rfl⟩
  have hDl : D.length = 32 := by rw [← hDD.out, bv_length]; exact (rootD_dig _).1
  have hD1 : ∀ u ∈ D, u.oneCell' = true := by rw [← hDD.out]; exact bv_one _
  have hDi : Hid ((Tryz.prog.info? 23).map (·.size) = some D.length) := by show _ = _; rw [hDl]; exact size35
  go_enter Tryz.func25, Tryz.ntmps25
  go_wp2_with fail
  rw [htb.out]
  generalize hW : World.alloc w _ = W
  have hT : Hid (Blk W tb 23 (bv (List.replicate 32 0))) := by rw [← hW, ← htb.out]; exact Blk.new w _ _
  have hb : Hid (Below w.heap.size w W) := by rw [← hW]; exact (Below.refl _ w).alloc (Nat.le_refl _) _
  clear hW
  refine (r35nodes_any K a n c l W (H'.out.below hb.out)).mono ?_
  rintro e w1 ⟨nb, cs, rfl, hN, hR⟩
  have hT1 := hT.out.below hN.2.2.1 hT.out.lt
  have hb1 := hb.out.trans (hN.2.2.1.mono hb.out.size)
  have hrg : Hid (w1.rangeAt nb 32 D) := by rw [← hDD.out]; exact rowAt_rng hN.1 hR
  have hP := Lib.hid (Put.mk' (ty := 23) (RES := D) hT1 (by rw [hDl]; rfl) hDi.out hD1)
  have hend : Hid (X (.returned (.agg D.toArray)) (w1.setCells tb 0 D)) := by
    show X _ _
    rw [hX.out, ← hDD.out]; exact ⟨rfl, by rw [hDD.out]; exact below_grown hb1 hP.out.grw hb1.size (Nat.le_of_eq htb.out)⟩
  clear hT1 hb1 hN hR hT hb hDl hD1
  go_wp2_with (first
    | (refine wpList_load_mid (by rfl) 23 (.tmp 5) rfl nb 32 rfl D _ hrg.out Tryz.underlying23 rfl hDi.out ?_)
    | (refine wpList_store_mid (by rfl) 23 (.tmp 2) (.tmp 6) (by rfl) tb 0 D.toArray (by rfl) (by rfl) hP.out.th hP.out.inf hP.out.one ?_))
  exact bodyPost_ret (results_cell_row rfl _ _ tb 23 D.toArray (0, 0) _ rfl hP.out.blk Tryz.underlying23 rfl hP.out.inf) rfl hend.out
end Go.Proofs.YthhblcbnnmoojaaGreatDoor
