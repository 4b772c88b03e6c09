/- the reference 30: Digests, Chain; the reference 02: Chain the reference 30: Verify, Sign the reference 30: Sign; store.Sign where open fails -/
import Derived.Test.YtlpgjdlkjahdgaaGreatDoorRsE
import Derived.Test.YtlpgjdlkjahdgaaGreatDoorSgA
namespace Go
variable {P : Program}
theorem wpList_buildSlice_run {ops : Array Oper} {rest : List Oper} {op : Oper} {a : Act} {w w' : World} {Q : Exit → Act → World → Prop} {v : Value} (hgd : op.guard = none) (t : TypeId) (k : Nat) (parts : Array (Nat × Operand)) (ho : op.op = .buildSlice t k parts) (ps : Array (Nat × Value)) (hp : (parts.map fun (i, x) => (i, a.eval x)) = ps) (hr : (Instr.buildSlice t k ps).run P w = .ok v w')
    (h : wpList P ops Q rest (a.put op.dst v) w') : wpList P ops Q (op :: rest) a w :=
  wpList_plain hgd fun _ hK => by
    unfold Oper.wp execOp
    simp only [ho, hp, Sem.run_bind, hr, Result.andThen_ok, Sem.run_pure]
    exact hK _ _ h
end Go
namespace Go.Proofs.YtlpgjdlkjahdgaaGreatDoor
open Go.RowKit Go.Mem
/-- an owned row of digests. -/
def OwnD (w0 W : World) (v : Value) (ds : List (List Nat)) : Prop := W.ownsRow w0.heap.size 43 32 v ds.length (digRows (ds.map fD)) ∧ ∀ x ∈ ds, x.length = 32 ∧ ∀ u ∈ x, u < 256
theorem OwnD.ds {w0 W : World} {v : Value} {ds : List (List Nat)} (h : OwnD w0 W v ds) : ∃ a c, v = .slice a ds.length c ∧ DS W a ds.length c ds := DS.own h.2 h.1
theorem dig_slice1 {d : List Nat} (hd : d.length = 32) (W : World) : (Instr.buildSlice 58 1 #[(0, .agg (bv d).toArray)]).run Tryz.prog W = .ok (.slice (some ⟨W.heap.size, 0, none⟩) 1 1) (W.alloc (.cells (bv d).toArray 43)) := by
  have h := digs_row (fD d) W
  rwa [rD_fD hd] at h
theorem append_dg {w0 W : World} {v : Value} {ds : List (List Nat)} {d : List Nat} (ho : OwnD w0 W v ds) (hb0 : Below w0.heap.size w0 W) (hd : d.length = 32 ∧ ∀ u ∈ d, u < 256) (hn : ds.length + 1 ≤ 1000000000000) :
    ∃ v' W', (∀ ty, (Builtin.append_ #[58, 58] ty #[v, .slice (some ⟨W.heap.size, 0, none⟩) 1 1]).run Tryz.prog (W.alloc (.cells (bv d).toArray 43)) = .ok v' W') ∧ OwnD w0 W' v' (ds ++ [d]) ∧ Below w0.heap.size w0 W' := by
  obtain ⟨i0, hi, ⟨z, hz0, hzs⟩, hz1, hz2⟩ := info_partsD
  have hown := World.ownsRow.alloc ho.1 (.cells (bv d).toArray 43)
  have hba := hb0.alloc hb0.size (.cells (bv d).toArray 43)
  have hB := Blk.new W 43 (bv d)
  obtain ⟨v', w', hr, h2, h3, _⟩ := run_append_own (P := Tryz.prog) (W.alloc (.cells (bv d).toArray 43)) w0.heap.size 58 0 43 i0 z 32 32 Tryz.underlying58 hi hz0 hz1 hz2 hzs (by omega) v ds.length (digRows (ds.map fD)) hown ⟨W.heap.size, 0, none⟩ 1 1 (bv d) (by rw [bv_length, hd.1]) (fun j u hj => by rw [Addr.add_lit, Nat.zero_add]; exact hB.at_ hj) (bv_one d) (by unfold maxLen; omega) (by omega) hba.size
  refine ⟨v', w', fun ty => ?_, ⟨?_, ?_⟩, hba.grown h3 hba.size (fun r e => (World.ownsRow.lt hown r e).1)⟩
  · rw [← hr]; rfl
  · rw [List.map_append, List.map_cons, List.map_nil, digRows_snoc, rD_fD hd.1, List.length_append]
    exact h2
  · intro x hx
    rcases List.mem_append.1 hx with hx | hx
    · exact ho.2 x hx
    · rw [List.mem_singleton] at hx; subst hx; exact hd
open Go.Sto (Ent Lg St)
theorem own_nilD {w0 W : World} : OwnD w0 (W.alloc (.cells #[] 43)) (.slice (some ⟨W.heap.size, 0, none⟩) 0 0) [] → True := fun _ => trivial
theorem own_newD {w0 W : World} (hb : Below w0.heap.size w0 W) : OwnD w0 (W.alloc (.cells #[] 43)) (.slice (some ⟨W.heap.size, 0, none⟩) 0 0) [] :=
  ⟨⟨rfl, Or.inr ⟨W.heap.size, 0, #[], rfl, hb.size, heap_alloc_new W _, Nat.le_refl _, by unfold maxLen; omega, rfl, rfl⟩⟩, fun _ h => by cases h⟩
set_option maxRecDepth 20000 in
set_option maxHeartbeats 4000000 in
theorem r30digs_any (K : Nat → Prop) (a : Option Addr) (n c : Nat) (l : List Ent) (w : World) (H : ES K w a n c l) :
    Calls Tryz.prog 32 #[.slice a n c] w (ColPost (l.map (·.dig)) w) := by
  have H' := Lib.hid H
  have hlen := H.rs.len
  have hbd := H.bd
  have n63 : (n : Int) ≤ 100000 := by omega
  clear H
  obtain ⟨X, hX⟩ : ∃ X, X = ColPost (l.map (·.dig)) w := ⟨_, rfl⟩
  have hfin : Hid (∀ v W, OwnD w W v (l.map (·.dig)) → Below w.heap.size w W → X (.returned v) W) := fun v W hO hb => by
    obtain ⟨a, c, rfl, hD⟩ := hO.ds
    rw [hX]
    exact ⟨a, c, rfl, hD, hb⟩
  rw [← hX]
  clear hX
  go_enter Tryz.func32, Tryz.ntmps32
  go_wp2_with fail
  go_loopw [3, 4] (fun sl i wr => ∃ (k : Nat) (sv : Value), k ≤ n ∧ i = .int .i64 k ∧ sl = sv ∧ Hid (OwnD w wr sv ((l.take k).map (·.dig))) ∧ Hid (Below w.heap.size w wr)) (fun _ i _ => n - (intOf i).toNat)
  case atStart => exact ⟨0, _, Nat.zero_le _, rfl, rfl, own_newD (Below.refl _ _), (Below.refl _ w).alloc (Nat.le_refl _) _⟩
  case round =>
    obtain ⟨k, sv, hk, rfl, rfl, hO, hbw⟩ := hrel
    by_cases hklt : k < n
    case pos =>
      obtain ⟨x, hx⟩ : ∃ x, l[k]? = some x := ⟨_, List.getElem?_eq_getElem (by omega)⟩
      obtain ⟨b, off, r, rfl, hbl, _, ⟨ho, ea, en, ec, rfl, _⟩, hrl, hrg⟩ := (RS.keep (R' := EV K) H'.out.rs (.below hbw.out) fun e r ⟨h1, a, n, c, h2, h3⟩ => ⟨h1, a, n, c, h2, h3.keep (.below hbw.out)⟩).get hx
      have hdr := Lib.hid (EntR.of hrg ho.dig).dig
      have hdi : Hid ((Tryz.prog.info? 43).map (·.size) = some (bv x.dig).length) := by show _ = _; rw [bv_length, ho.dig]; exact size35
      have hdl : ((l.take k).map (·.dig)).length + 1 ≤ 1000000000000 := by rw [List.length_map, List.length_take]; omega
      obtain ⟨v', W7, hr7, hO7, hb7⟩ := append_dg (d := x.dig) hO.out hbw.out ⟨ho.dig, ho.lt⟩ hdl
      rw [show (l.take k).map (·.dig) ++ [x.dig] = (l.take (k + 1)).map (·.dig) from by rw [List.take_succ_eq_append_getElem (List.getElem?_eq_some_iff.1 hx).1, List.map_append, (List.getElem?_eq_some_iff.1 hx).2]; rfl] at hO7
      have hr7' := Lib.hid hr7; have hO7' := Lib.hid hO7; have hb7' := Lib.hid hb7
      have hds := dig_slice1 ho.dig wr
      have k0 : (0 : Int) ≤ (k : Int) := by omega
      have k1 : (k : Int) < (n : Int) := by omega
      clear hr7 hO7 hb7 hO hbw hrg hrl ho hdl hx
      go_wp2_with (first
        | (refine wpList_load_mid (by rfl) 43 _ (by rfl) b (off + k * 35 + 1) (by rfl) (bv x.dig) _ hdr.out Tryz.underlying43 (by rfl) hdi.out ?_)
        | (refine wpList_buildSlice_run (by rfl) 58 1 _ rfl #[(0, .agg (bv x.dig).toArray)] (by simp only [List.map_toArray, List.map_cons, List.map_nil]; rfl) hds ?_)
        | (at_builtin; refine Lib.wpList_append_run _ rfl _ _ _ _ rfl _ _ rfl rfl _ _ (hr7'.out _) ?_))
      go_roundw
      case rel => exact ⟨k + 1, v', by omega, by go_num, rfl, hO7', hb7'⟩
      case measure => simp [intOf]; omega
    case neg =>
      obtain rfl : k = n := by omega
      rw [List.take_of_length_le (by omega)] at hO
      have hf := Lib.hid (hfin.out _ _ hO.out hbw.out)
      clear hfin hO
      go_wp2_with fail
      exact hf.out

/-- the boxes of Chain. -/
def PrC (w : World) (tb : Nat) (a c : List Nat) (wz : World) : Prop := Blk wz tb 43 (bv a) ∧ Blk wz (tb + 1) 43 (bv c) ∧ Blk wz (tb + 1 + 1) 43 (bv (List.replicate 32 0)) ∧ Below w.heap.size w wz ∧ w.heap.size ≤ tb
section
variable {w wz wq : World} {tb : Nat} {a c : List Nat}
theorem PrC.next (hb : Below wz.heap.size wz wq) (h : PrC w tb a c wz) : PrC w tb a c wq := ⟨h.1.below hb h.1.lt, h.2.1.below hb h.2.1.lt, h.2.2.1.below hb h.2.2.1.lt, h.2.2.2.1.trans (hb.mono h.2.2.2.1.size), h.2.2.2.2⟩
theorem PrC.drew (h : PrC w tb a c wz) : PrC w tb a c wz.drew := h.next ((Below.refl _ _).drew)
end
theorem whole32c {W : World} {b : Nat} {u : List Nat} (hu : u.length = 32) (hq : ∀ q ∈ u, q < 256) (h : Blk W b 43 (bv u)) : BS W (some ⟨b, 0, none⟩) 32 32 u := by
  have := Blk.bs (pre := []) (post := []) (l := u) (c := 32) (by simpa using h) (by omega) (by omega) hq
  rwa [hu] at this
theorem empty_bytesC (W : World) : (Instr.buildSlice 33 0 #[]).run Tryz.prog W = .ok (.slice (some ⟨W.heap.size, 0, none⟩) 0 0) (W.alloc (.cells #[] 5)) := by kernel_rfl
set_option maxRecDepth 20000 in
set_option maxHeartbeats 2000000 in
theorem r2chain_any (a c : List Nat) (ha : a.length = 32) (hc : c.length = 32) (hal : ∀ u ∈ a, u < 256) (hcl : ∀ u ∈ c, u < 256) (w : World) :
    Calls Tryz.prog 80 #[.agg (bv a).toArray, .agg (bv c).toArray] w (DigPost (Sha.chain a c) w) := by
  obtain ⟨X, hX⟩ : ∃ X, Hid (X = DigPost (Sha.chain a c) w) := ⟨_, rfl⟩
  rw [← hX.out]
  have ha' := Lib.hid ha; have hc' := Lib.hid hc; have hal' := Lib.hid hal; have hcl' := Lib.hid hcl
  clear ha hc hal hcl
  obtain ⟨tb, htb⟩ : ∃ tb, Hid (w.heap.size = tb) := ⟨_, rfl⟩
  go_enter Tryz.func80, Tryz.ntmps80
  go_upto_region 1 with fail
  rw [htb.out]
  generalize hW : World.alloc _ _ = W
  have hM : PrC w tb a c W := by
    rw [← hW, ← htb.out]
    refine ⟨((Blk.new w _ (bv a)).alloc _).alloc _, ?_, ?_, (((Below.refl _ w).alloc (Nat.le_refl _) _).alloc (by simp) _).alloc (by simp; omega) _, Nat.le_refl _⟩
    · have := Blk.new (w.alloc (.cells (bv a).toArray 43)) 43 (bv c)
      rw [World.size_alloc] at this
      exact this.alloc _
    · have := Blk.new ((w.alloc (.cells (bv a).toArray 43)).alloc (.cells (bv c).toArray 43)) 43 (bv (List.replicate 32 0))
      rw [World.size_alloc, World.size_alloc] at this
      exact this
  clear hW
  refine wp_region_held_drew (S := fun wz => True) (by kernel_rfl) (trivial) (fun hHeld => ?_)
  have hM0 := hM.drew
  generalize W.drew = W0 at *
  clear hM
  refine wpAnyH_take (i := 1) (oi := { dst := some 6, op := Op.slice 43 (Operand.tmp 2) none none none, type := 33, pos := "ref.go:178", after := #[], guard := none }) (v := ?_) rfl (by kernel_rfl) (by kernel_rfl) (by kernel_rfl) (fun _ _ _ h => h) (Or.inl ⟨by rfl, ?_⟩) hHeld ?_
  rotate_left
  · intro wz hSw
    go_simp
    all_goals (with_reducible rfl)
  try simp only [Act.put, List.setIfInBounds_toArray, List.set_cons_zero, List.set_cons_succ]
  refine wpAnyH_take (i := 3) (oi := { dst := some 8, op := Op.slice 43 (Operand.tmp 3) none none none, type := 33, pos := "ref.go:178", after := #[], guard := none }) (v := ?_) rfl (by kernel_rfl) (by kernel_rfl) (by kernel_rfl) (fun _ _ _ h => h) (Or.inl ⟨by rfl, ?_⟩) hHeld ?_
  rotate_left
  · intro wz hSw
    go_simp
    all_goals (with_reducible rfl)
  try simp only [Act.put, List.setIfInBounds_toArray, List.set_cons_zero, List.set_cons_succ]
  refine wpAnyH_ready (rs := [0]) (by kernel_rfl) (by simp) ?_
  refine AllReadyH.cons (o := { dst := some 5, op := Op.buildSlice 33 0 #[], type := 33, pos := "ref.go:178", after := #[], guard := none }) rfl (fun K hK => ?_) AllReadyH.nil
  rw [if_pos (by rfl)]
  refine wp_buildSlice_run 33 0 #[] rfl #[] (by simp) (empty_bytesC W0) ?_
  refine hK.out _ _ trivial (fun hHeld => ?_)
  clear hK K
  try simp only [Act.put, List.setIfInBounds_toArray, List.set_cons_zero, List.set_cons_succ]
  refine wpAnyH_ready (rs := [2]) (by kernel_rfl) (by simp) ?_
  refine AllReadyH.cons (o := { dst := some 7, op := Op.call { callee := Callee.builtin Builtin.append, args := #[Operand.tmp 5, Operand.tmp 6], argTypes := #[33, 33] }, type := 33, pos := "ref.go:178", after := #[{ on := 0, ground := Ground.data }, { on := 1, ground := Ground.data }], guard := none }) rfl (fun K hK => ?_) AllReadyH.nil
  rw [if_pos (by rfl)]
  obtain ⟨v1, W1, hr1, ho1, hb1⟩ := append_byL (own_new W0) (by simp) ((Below.refl _ W0).alloc (Nat.le_refl _) (.cells #[] 5)) (bw_of (whole32c ha'.out hal'.out (hM0.1.alloc (.cells #[] 5)))) (by simp)
  rw [List.nil_append] at ho1
  refine wp_append_run rfl _ _ (by rfl) (by rfl) (hr1 _) ?_
  refine hK.out _ _ trivial (fun hHeld => ?_)
  clear hr1
  clear hK K
  try simp only [Act.put, List.setIfInBounds_toArray, List.set_cons_zero, List.set_cons_succ]
  refine wpAnyH_ready (rs := [4]) (by kernel_rfl) (by simp) ?_
  refine AllReadyH.cons (o := { dst := some 9, op := Op.call { callee := Callee.builtin Builtin.append, args := #[Operand.tmp 7, Operand.tmp 8], argTypes := #[33, 33] }, type := 33, pos := "ref.go:178", after := #[{ on := 2, ground := Ground.data }, { on := 3, ground := Ground.data }, { on := 2, ground := Ground.chain }], guard := none }) rfl (fun K hK => ?_) AllReadyH.nil
  rw [if_pos (by rfl)]
  obtain ⟨v2, W2, hr2, ho2, hb2⟩ := append_byL ho1 hb1.size hb1 (bw_of (whole32c hc'.out hcl'.out (PrC.next hb1 hM0).2.1)) (by rw [ha'.out]; omega)
  refine wp_append_run rfl _ _ (by rfl) (by rfl) (hr2 _) ?_
  have hM2 := PrC.next hb2 hM0
  obtain ⟨a2, c2, rfl, hS2⟩ := BS.own ho2.1 ho2.2
  rw [List.length_append, ha'.out, hc'.out] at hS2 ⊢
  refine hK.out _ _ trivial (fun hHeld => ?_)
  clear hr2 ho1 hb1 ho2 hb2 hM0
  clear hK K
  try simp only [Act.put, List.setIfInBounds_toArray, List.set_cons_zero, List.set_cons_succ]
  refine wpAnyH_ready (rs := [5]) (by kernel_rfl) (by simp) ?_
  refine AllReadyH.cons (o := { dst := some 10, op := Op.call { callee := Callee.value (Operand.func 78), args := #[Operand.const (Value.string { data := #[99, 104, 97, 105, 110] }), Operand.tmp 9], argTypes := #[9, 33] }, type := 43, pos := "ref.go:178", after := #[{ on := 4, ground := Ground.data }, { on := 4, ground := Ground.chain }], guard := none }) rfl (fun K hK => ?_) AllReadyH.nil
  rw [if_pos (by rfl)]
  show Oper.wp _ _ _ _ K _
  go_simp
  go_at_call 78
  refine (r2tagged_any ⟨#[99, 104, 97, 105, 110]⟩ (by decide) _ _ _ _ W2 (bw_of hS2) (by omega)).mono ?_
  rintro e W3 ⟨rfl, hb3⟩
  have hM3 := PrC.next hb3 hM2
  rw [show Sha.tagged (octets ⟨#[99, 104, 97, 105, 110]⟩) (a ++ c) = Sha.chain a c from rfl]
  obtain ⟨D, hDD⟩ : ∃ D, Hid (bv (Sha.chain a c) = D) := ⟨_, rfl⟩
  have hDl : D.length = 32 := by rw [← hDD.out, bv_length]; exact Sha.tagged_length _ _
  have hD1 : ∀ u ∈ D, u.oneCell' = true := by rw [← hDD.out]; exact bv_one _
  rw [hDD.out]
  refine hK.out _ _ trivial (fun hHeld => ?_)
  clear hb3 hM2 hS2
  clear hK K
  try simp only [Act.put, List.setIfInBounds_toArray, List.set_cons_zero, List.set_cons_succ]
  refine wpAnyH_ready (rs := [6]) (by kernel_rfl) (by simp) ?_
  refine AllReadyH.cons (o := { dst := none, op := Op.store 43 (Operand.tmp 4) (Operand.tmp 10), type := 0, pos := "ref.go:178", after := #[{ on := 5, ground := Ground.data }, { on := 5, ground := Ground.chain }, { on := 0, ground := Ground.phase }, { on := 1, ground := Ground.phase }, { on := 2, ground := Ground.phase }, { on := 3, ground := Ground.phase }, { on := 4, ground := Ground.phase }, { on := 5, ground := Ground.phase }], guard := none }) rfl (fun K hK => ?_) AllReadyH.nil
  rw [if_pos (by rfl)]
  have hP := Lib.hid (Put.mk' (ty := 43) (RES := D) hM3.2.2.1 (by rw [hDl]; rfl) (by rw [hDl]; exact size35) hD1)
  refine wp_store_mid 43 _ _ rfl (tb + 1 + 1) 0 D.toArray (by rfl) (by rfl) hP.out.th hP.out.inf hP.out.one ?_
  refine hK.out _ _ trivial (fun hHeld => ?_)
  clear hK K
  try simp only [Act.put]
  refine wpAnyH_done (by kernel_rfl) ?_ _
  have hend : Hid (X (.returned (.agg D.toArray)) (W3.setCells (tb + 1 + 1) 0 D)) := by
    show X _ _
    rw [hX.out, ← hDD.out]; exact ⟨rfl, by rw [hDD.out]; exact below_grown hM3.2.2.2.1 hP.out.grw hM3.2.2.2.1.size (by have := hM3.2.2.2.2; omega)⟩
  clear hDl hD1 hM3
  go_wp2_with fail
  exact bodyPost_ret (results_cell_row rfl _ _ (tb + 1 + 1) 43 D.toArray (0, 0) _ rfl hP.out.blk Tryz.underlying43 rfl hP.out.inf) rfl hend.out

set_option maxRecDepth 20000 in
set_option maxHeartbeats 2000000 in
theorem r30chain_any (folder : Int) (_hk : -9223372036854775808 ≤ folder ∧ folder ≤ 9223372036854775807) (a : Option Addr) (n c : Nat) (l : List (List Nat)) (w : World) (H : DS w a n c l) :
    Calls Tryz.prog 33 #[.int .i64 folder, .slice a n c] w (DigPost (chainD folder l) w) := by
  have n63 : (n : Int) ≤ 9223372036854775807 := by have := H.le; have := H.max; omega
  have H' := Lib.hid H
  clear H
  obtain ⟨k0, k1⟩ := _hk
  obtain ⟨X, hX⟩ : ∃ X, Hid (X = DigPost (chainD folder l) w) := ⟨_, rfl⟩
  rw [← hX.out]
  obtain ⟨tb, htb⟩ : ∃ tb, Hid (w.heap.size = tb) := ⟨_, rfl⟩
  go_enter Tryz.func33, Tryz.ntmps33
  go_upto_region 1 with fail
  rw [htb.out]
  generalize hW : World.alloc w _ = W
  have hD : Hid (Blk W tb 43 (bv (List.replicate 32 0))) := by rw [← hW, ← htb.out]; exact Blk.new w _ _
  have hb : Hid (Below w.heap.size w W) := by rw [← hW]; exact (Below.refl _ w).alloc (Nat.le_refl _) _
  clear hW
  have hk1 := Lib.hid (one_bs (Blk.new W 5 [.int .u8 (folder % 256)]))
  have hed : Hid (Sha.tagged (octets ⟨#[108, 111, 103]⟩) [(folder % 256).toNat] = logD folder) := rfl
  go_wp2_with fail
  refine (r2tagged_any ⟨#[108, 111, 103]⟩ (by decide) _ _ _ _ _ (bw_of hk1.out) (by omega)).mono ?_
  rintro e W8 ⟨rfl, hb8⟩
  have hwa := Lib.hid ((Below.refl _ W).alloc (Nat.le_refl _) (.cells #[.int .u8 (folder % 256)] 5))
  have hb8' := Lib.hid (hb.out.trans ((hwa.out.trans (hb8.mono (by simp))).mono hb.out.size))
  have hD8 := Lib.hid (hD.out.below (hwa.out.trans (hb8.mono (by simp))) hD.out.lt)
  have htl : Hid (tb < W8.heap.size) := hD8.out.lt
  clear hb hD hk1 hb8 hwa
  rw [hed.out]
  have hll : Hid ((logD folder).length = 32 ∧ ∀ u ∈ logD folder, u < 256) := ⟨Sha.tagged_length _ _, Sha.tagged_lt _ _⟩
  obtain ⟨W9, hP⟩ := put_dig (x := logD folder) (Blk.new W8 43 (bv (List.replicate 32 0))) (by simp) hll.out.1
  have hfold : Hid (chainD folder l = (l.drop 0).foldl Sha.chain (logD folder)) := rfl
  have hT9 : Hid (Blk W9 tb 43 (bv (List.replicate 32 0))) := (hD8.out.alloc _).grown hP.grown (fun e => by have := htl.out; cases e; omega)
  have hb9 : Hid (Below w.heap.size w W9) := below_grown (hb8'.out.alloc hb8'.out.size _) hP.grown (Nat.le_trans hb8'.out.size (by simp)) hb8'.out.size
  generalize logD folder = E0 at *
  obtain ⟨eb, heq⟩ : ∃ eb, Hid (W8.heap.size = eb) := ⟨_, rfl⟩
  have heb : Hid (tb < eb) := by rw [← heq.out]; exact htl.out
  have hB9 : Hid (Blk W9 eb 43 (bv E0)) := by rw [← heq.out]; exact hP.blk
  obtain ⟨RES, hRES⟩ : ∃ R, Hid (bv E0 = R) := ⟨_, rfl⟩
  have hP' := Lib.hid hP
  rw [heq.out] at hP'
  rw [hRES.out] at hP' ⊢
  clear hP hed htl hD8 hb8'
  have hi32 : Hid ((Tryz.prog.info? 43).map (·.size) = some 32) := size35
  go_upto_region 2 with (first
    | (rw [heq.out]
       refine wpList_store_mid (by rfl) 43 (.tmp 5) (.tmp 10) (by rfl) eb 0 RES.toArray (by rfl) (by rfl) hP'.out.there hP'.out.info (by simpa using hP'.out.one) ?_
       generalize hW9 : World.setCells _ _ _ _ = Wa
       obtain rfl : W9 = Wa := by rw [← hW9]; exact hP'.out.eq
       clear hW9))
  clear hP' hRES heq
  go_wp2_with fail
  go_loopw [6] (fun i wr => ∃ (k : Nat) (E : List Nat), k ≤ n ∧ i = .int .i64 k ∧ Hid (E.length = 32 ∧ ∀ u ∈ E, u < 256) ∧ Hid (Blk wr eb 43 (bv E)) ∧ Hid (Blk wr tb 43 (bv (List.replicate 32 0))) ∧ Hid (Below w.heap.size w wr) ∧ Hid (chainD folder l = (l.drop k).foldl Sha.chain E)) (fun i _ => n - (intOf i).toNat)
  case atStart => exact ⟨0, E0, Nat.zero_le _, rfl, hll, hB9, hT9, hb9, hfold⟩
  case round =>
    obtain ⟨k, E, hk, rfl, hE, hB, hT, hbr, hf⟩ := hrel
    clear hfold hB9 hb9 hT9 hll
    by_cases hlt : k < n
    · have hkl : k < l.length := by rw [H'.out.len]; exact hlt
      have hax : a ≠ none := fun e => by have := H'.out.nil e; omega
      obtain ⟨ad, rfl⟩ := Option.ne_none_iff_exists'.1 hax
      obtain ⟨b, off, rfl, hbl, hc⟩ := H'.out.cells (by omega) _ rfl
      have hrg := hc k l[k] (List.getElem?_eq_getElem hkl)
      obtain ⟨hd1, hd2⟩ := H'.out.ok l[k] (List.getElem_mem hkl)
      have hf' := hf.out
      rw [List.drop_eq_getElem_cons hkl, List.foldl_cons] at hf'
      generalize l[k] = d at *
      have hr1 : Hid (wr.rangeAt b (off + k * 32) (bv d)) := fun j v hv => (hbr.out.cell (p := ⟨b, _, none⟩) hbl).trans ((show w.rangeAt b (off + k * 32) (bv d) by rw [Nat.mul_comm]; exact hrg) j v hv)
      have hr2 := Lib.hid hB.out.range
      have hdl : Hid ((Tryz.prog.info? 43).map (·.size) = some (bv d).length) := by show _ = _; rw [bv_length, hd1]; exact size35
      have hel : Hid ((Tryz.prog.info? 43).map (·.size) = some (bv E).length) := by show _ = _; rw [bv_length, hE.out.1]; exact size35
      have hc2 := Lib.hid (fun W => r2chain_any E d hE.out.1 hd1 hE.out.2 hd2 W)
      have hE2d : Hid ((Sha.chain E d).length = 32 ∧ ∀ u ∈ Sha.chain E d, u < 256) := ⟨Sha.tagged_length _ _, Sha.tagged_lt _ _⟩
      obtain ⟨E2, hE2⟩ : ∃ E2, Hid (Sha.chain E d = E2) := ⟨_, rfl⟩
      rw [hE2.out] at hE2d hf'
      have hf2 := Lib.hid hf'
      have k0' : (0 : Int) ≤ (k : Int) := by omega
      have k1' : (k : Int) < (n : Int) := by omega
      clear hf' hf hrg hc hd1 hd2 hkl hax
      go_upto_region 5 with fail
      refine wp_region_held_drew (S := fun wz => Below w.heap.size wr wz) (by kernel_rfl) (((Below.refl _ wr).drew : Below w.heap.size wr wr.drew)) (fun hHeld => ?_)
      refine wpAnyH_take (i := 1) (oi := { dst := some 18, op := Op.move (Operand.tmp 1), type := 58, pos := "ref.go:20", after := #[], guard := none }) (v := ?_) rfl (by kernel_rfl) (by kernel_rfl) (by kernel_rfl) (fun _ _ _ h => h) (Or.inl ⟨by rfl, ?_⟩) hHeld ?_
      rotate_left
      · intro wz hSw
        go_simp
        all_goals (with_reducible rfl)
      try simp only [Act.put, List.setIfInBounds_toArray, List.set_cons_zero, List.set_cons_succ]
      refine wpAnyH_take (i := 2) (oi := { dst := some 19, op := Op.move (Operand.tmp 6), type := 3, pos := "ref.go:20", after := #[], guard := none }) (v := ?_) rfl (by kernel_rfl) (by kernel_rfl) (by kernel_rfl) (fun _ _ _ h => h) (Or.inl ⟨by rfl, ?_⟩) hHeld ?_
      rotate_left
      · intro wz hSw
        go_simp
        all_goals (with_reducible rfl)
      try simp only [Act.put, List.setIfInBounds_toArray, List.set_cons_zero, List.set_cons_succ]
      refine wpAnyH_take (i := 3) (oi := { dst := some 20, op := Op.indexAddr 58 (Operand.tmp 18) (Operand.tmp 19), type := 0, pos := "ref.go:20", after := #[{ on := 1, ground := Ground.data }, { on := 2, ground := Ground.data }], guard := none }) (v := ?_) rfl (by kernel_rfl) (by kernel_rfl) (by kernel_rfl) (fun _ _ _ h => h) (Or.inl ⟨by rfl, ?_⟩) hHeld ?_
      rotate_left
      · intro wz hSw
        go_simp
        all_goals (with_reducible rfl)
      try simp only [Act.put, List.setIfInBounds_toArray, List.set_cons_zero, List.set_cons_succ]
      refine wpAnyH_take (i := 4) (oi := { dst := some 21, op := Op.load 43 (Operand.tmp 20), type := 43, pos := "ref.go:20", after := #[{ on := 3, ground := Ground.data }], guard := none }) rfl (by kernel_rfl) (by kernel_rfl) (by kernel_rfl) (fun _ _ _ h => h) (yieldsIf_load_mid (by rfl) _ _ rfl b (off + k * 32) rfl (bv d) _ (fun wz h => fun j v hv => (h.cell (p := ⟨b, _, none⟩) hbl).trans (hr1.out j v hv)) Tryz.underlying43 rfl (hdl.out)) hHeld ?_
      try simp only [Act.put, List.setIfInBounds_toArray, List.set_cons_zero, List.set_cons_succ]
      refine wpAnyH_ready (rs := [0]) (by kernel_rfl) (by simp) ?_
      refine AllReadyH.cons (o := { dst := some 17, op := Op.load 43 (Operand.tmp 5), type := 43, pos := "ref.go:20", after := #[], guard := none }) rfl (fun K hK => ?_) AllReadyH.nil
      rw [if_pos (by rfl)]
      refine wp_load_mid 43 _ rfl eb 0 rfl (bv E) _ hr2.out Tryz.underlying43 rfl hel.out ?_
      refine hK.out _ _ hHeld (fun hHeld => ?_)
      clear hK K
      try simp only [Act.put, List.setIfInBounds_toArray, List.set_cons_zero, List.set_cons_succ]
      refine wpAnyH_ready (rs := [5]) (by kernel_rfl) (by simp) ?_
      refine AllReadyH.cons (o := { dst := some 22, op := Op.call { callee := Callee.value (Operand.func 80), args := #[Operand.tmp 17, Operand.tmp 21], argTypes := #[43, 43] }, type := 43, pos := "ref.go:20", after := #[{ on := 0, ground := Ground.data }, { on := 4, ground := Ground.data }], guard := none }) rfl (fun K hK => ?_) AllReadyH.nil
      rw [if_pos (by rfl)]
      show Oper.wp _ _ _ _ K _
      go_simp
      go_at_call 80
      refine (hc2.out _).mono ?_
      rintro e W3 ⟨rfl, hb3⟩
      have hb4 : Below wr.heap.size wr W3 := (Below.refl _ wr).drew.trans hb3
      rw [hE2.out]
      refine hK.out _ _ (hb4.mono hbr.out.size) (fun hHeld => ?_)
      clear hK K
      try simp only [Act.put, List.setIfInBounds_toArray, List.set_cons_zero, List.set_cons_succ]
      obtain ⟨W4, hQ⟩ := put_dig (x := E2) (hB.out.below hb4 hB.out.lt) hE.out.1 hE2d.out.1
      have hg4 : wr.grownBy W4 (some eb) := ⟨hQ.grown.os.trans hb4.os, hQ.grown.tape.trans hb4.tape, hQ.grown.output.trans hb4.output, Nat.le_trans hb4.size hQ.grown.size, fun q hq hne => (hQ.grown.block q (Nat.lt_of_lt_of_le hq hb4.size) hne).trans (hb4.block q hq)⟩
      have hT4 : Hid (Blk W4 tb 43 (bv (List.replicate 32 0))) := hT.out.grown hg4 (fun e => by cases e; exact absurd heb.out (Nat.lt_irrefl _))
      have hbb4 : Hid (Below w.heap.size w W4) := hbr.out.grown hg4 hbr.out.size (fun r e => by cases e; have := heb.out; have := htb.out; omega)
      have hB4 := Lib.hid hQ.blk
      refine wpAnyH_ready (rs := [6]) (by kernel_rfl) (by simp) ?_
      refine AllReadyH.cons (o := { dst := none, op := Op.store 43 (Operand.tmp 5) (Operand.tmp 22), type := 0, pos := "ref.go:20", after := #[{ on := 5, ground := Ground.data }, { on := 5, ground := Ground.chain }, { on := 0, ground := Ground.phase }, { on := 1, ground := Ground.phase }, { on := 2, ground := Ground.phase }, { on := 3, ground := Ground.phase }, { on := 4, ground := Ground.phase }, { on := 5, ground := Ground.phase }], guard := none }) rfl (fun K hK => ?_) AllReadyH.nil
      rw [if_pos (by rfl)]
      refine wp_store_mid 43 _ _ rfl eb 0 (bv E2).toArray (by rfl) (by rfl) hQ.there hQ.info (by simpa using hQ.one) ?_
      generalize hWq : World.setCells _ _ _ _ = Wa
      obtain rfl : W4 = Wa := by rw [← hWq]; exact hQ.eq
      clear hWq
      refine hK.out _ _ ((Below.refl w.heap.size wr).grown hg4 hbr.out.size (fun r e => by cases e; have := heb.out; have := htb.out; omega)) (fun hHeld => ?_)
      clear hK K
      try simp only [Act.put]
      refine wpAnyH_done (by kernel_rfl) ?_ _
      clear hQ hb3 hb4 hg4
      go_wp2_with fail
      go_roundw
      case rel => exact ⟨k + 1, E2, by omega, by go_num, hE2d, hB4, hT4, hbb4, hf2⟩
      case measure => simp [intOf]; omega
    · obtain rfl : k = n := by omega
      have hf' := hf.out
      rw [List.drop_eq_nil_of_le (by rw [H'.out.len]; exact Nat.le_refl _), List.foldl_nil] at hf'
      obtain ⟨W4, hQ⟩ := put_dig (x := E) hT.out (by simp) hE.out.1
      have hbb4 := Lib.hid (below_grown hbr.out hQ.grown hbr.out.size (Nat.le_of_eq htb.out))
      have hQ' := Lib.hid hQ
      have hel : Hid ((Tryz.prog.info? 43).map (·.size) = some (bv E).length) := by show _ = _; rw [bv_length, hE.out.1]; exact size35
      have hr2 := Lib.hid hB.out.range
      have hend : Hid (X (.returned (.agg (bv E).toArray)) W4) := by rw [hX.out, hf']; exact ⟨rfl, hbb4.out⟩
      clear hQ hf hf' hB hbr
      go_wp2_with (first
        | (refine wpList_load_mid (by rfl) 43 (.tmp 5) (by rfl) eb 0 (by rfl) (bv E) _ hr2.out Tryz.underlying43 (by rfl) hel.out ?_)
        | (refine wpList_store_mid (by rfl) 43 (.tmp 4) (.tmp 23) (by rfl) tb 0 (bv E).toArray (by rfl) (by rfl) hQ'.out.there hQ'.out.info (by simpa using hQ'.out.one) ?_
           generalize hWq : World.setCells _ _ _ _ = Wa
           obtain rfl : W4 = Wa := by rw [← hWq]; exact hQ'.out.eq
           clear hWq))
      exact bodyPost_ret (results_cell_row rfl _ _ tb 43 (bv E).toArray (0, 0) _ rfl hQ'.out.blk Tryz.underlying43 rfl (by rw [List.size_toArray]; exact hel.out)) rfl hend.out
end Go.Proofs.YtlpgjdlkjahdgaaGreatDoor
namespace Go.Proofs.YtlpgjdlkjahdgaaGreatDoor
open Go.RowKit Go.Mem
open Go.Sto (Ent Lg St)
set_option maxRecDepth 20000 in
set_option maxHeartbeats 4000000 in
theorem r30verify_any (pub st fo no R S : Int) (D : List Nat) (_hp : I64 pub) (hst : I64 st) (hfo : I64 fo) (hno : I64 no) (_hR : I64 R) (hD : D.length = 32 ∧ ∀ u ∈ D, u < 256) (w : World) :
    Calls Tryz.prog 28 #[.int .i64 pub, .agg (headC st fo no D R S).toArray] w (RetBo (headB pub st fo no D R S) w) := by
  obtain ⟨tb, htb⟩ : ∃ tb, Hid (w.heap.size = tb) := ⟨_, rfl⟩
  obtain ⟨r, hr⟩ : ∃ r, HeadR st fo no R S D r := ⟨_, rfl, hD.1⟩
  have hmsg := Lib.hid (fun W => r30msg_any st fo no R S D hst hfo hno hD W)
  have hM : Hid ((headD st fo no D).length = 32 ∧ ∀ u ∈ headD st fo no D, u < 256) := ⟨Sha.tagged_length _ _, Sha.tagged_lt _ _⟩
  have hW := HeadW.mk' hr (show HeadW w tb r (w.alloc (.cells r.toArray 47)) from ⟨htb.out ▸ Blk.new w _ _, (Below.refl _ w).alloc (Nat.le_refl _) _⟩)
  have hone := hr.one
  have hri : (Tryz.prog.info? 47).map (·.size) = some r.length := by rw [hr.len]; exact sizeH
  have hu := Tryz.underlying47
  rw [hr.eq] at hmsg ⊢
  obtain ⟨v, hv⟩ : ∃ v, Hid (headB pub st fo no D R S = v) := ⟨_, rfl⟩
  rw [hv.out]
  unfold headB at hv
  have hfb : Sto.folderB fo = (decide (0 ≤ fo) && decide (fo < 16)) := by unfold Sto.folderB; exact Bool.decide_and _ _
  replace hv : Hid ((decide (0 ≤ st) && decide (st < 4) && (decide (0 ≤ fo) && decide (fo < 16)) && decide (0 ≤ no) && decide (no ≤ 65536) && verB 4 pub (headD st fo no D) R S) = v) := by show _ = _; rw [← hfb]; exact hv.out
  clear hfb
  have hver := Lib.hid (fun W (a : Option Addr) (n c : Nat) (l : List Nat) (H : BW W a n c l) (hn : n ≤ 140737488354000) => r5verify_any pub R S a n c l W H hn)
  generalize verB 4 pub = VB at *
  generalize headD st fo no D = M at *
  have fin : Hid (∀ W, HeadW w tb r W → v = false → RetBo v w (.returned (.bool false)) W) := fun W h e => ⟨by rw [e], h.2⟩
  have hcs : (v = false ∧ ((decide (0 ≤ st) = false) ∨ (decide (0 ≤ st) = true ∧ decide (st < 4) = false) ∨ (decide (0 ≤ st) = true ∧ decide (st < 4) = true ∧ decide (0 ≤ fo) = false) ∨ (decide (0 ≤ st) = true ∧ decide (st < 4) = true ∧ decide (0 ≤ fo) = true ∧ decide (fo < 16) = false) ∨ (decide (0 ≤ st) = true ∧ decide (st < 4) = true ∧ decide (0 ≤ fo) = true ∧ decide (fo < 16) = true ∧ decide (0 ≤ no) = false) ∨ (decide (0 ≤ st) = true ∧ decide (st < 4) = true ∧ decide (0 ≤ fo) = true ∧ decide (fo < 16) = true ∧ decide (0 ≤ no) = true ∧ decide (no ≤ 65536) = false)))
      ∨ (VB M R S = v ∧ decide (0 ≤ st) = true ∧ decide (st < 4) = true ∧ decide (0 ≤ fo) = true ∧ decide (fo < 16) = true ∧ decide (0 ≤ no) = true ∧ decide (no ≤ 65536) = true) := by
    have h := hv.out
    cases h1 : decide (0 ≤ st) <;> cases h2 : decide (st < 4) <;> cases h3 : decide (0 ≤ fo) <;> cases h4 : decide (fo < 16) <;> cases h5 : decide (0 ≤ no) <;> cases h6 : decide (no ≤ 65536) <;> simp [h1, h2, h3, h4, h5, h6] at h ⊢ <;> first | exact h | exact h.symm
  clear hv
  rcases hcs with ⟨rfl, h1 | ⟨h1, h2⟩ | ⟨h1, h2, h3⟩ | ⟨h1, h2, h3, h4⟩ | ⟨h1, h2, h3, h4, h5⟩ | ⟨h1, h2, h3, h4, h5, h6⟩⟩ | ⟨hv, h1, h2, h3, h4, h5, h6⟩
  case inr =>
    have hver' := Lib.hid (fun W mb (hb : BS W (some ⟨mb, 0, none⟩) 32 32 M) => hver.out W _ _ _ _ (bw_of hb) (by omega))
    rw [hv] at hver'
    have hM' := hM.out
    clear hver fin hv hst hfo hno hD VB
    go_enter Tryz.func28, Tryz.ntmps28
    go_upto_region 1 with fail
    rw [htb.out]
    generalize w.alloc (.cells r.toArray 47) = w1 at *
    clear hone
    refine wp_region_held_drew (S := fun wz => wz.cell? ⟨tb, 0, none⟩ = some (.int .i64 st) ∧ wz.cell? ⟨tb, 1, none⟩ = some (.int .i64 fo) ∧ wz.cell? ⟨tb, 2, none⟩ = some (.int .i64 no) ∧ wz.rangeAt tb 0 r ∧ wz.cell? ⟨tb, 35, none⟩ = some (.int .i64 R) ∧ wz.cell? ⟨tb, 36, none⟩ = some (.int .i64 S) ∧ HeadW w tb r wz) (by kernel_rfl) (HeadW.drewB hr hW) (fun hHeld => ?_)
    refine wpAnyH_take (i := 0) (oi := { dst := some 5, op := Op.fieldAddr 47 (Operand.tmp 3) 0, type := 0, pos := "ref.go:202", after := #[], guard := none }) (v := ?_) rfl (by kernel_rfl) (by kernel_rfl) (by kernel_rfl) (fun _ _ _ h => h) (Or.inl ⟨by rfl, ?_⟩) hHeld ?_
    rotate_left
    · intro wz hSw
      go_simp
      all_goals (with_reducible rfl)
    try simp only [Act.put, List.setIfInBounds_toArray, List.set_cons_zero, List.set_cons_succ]
    refine wpAnyH_take (i := 1) (oi := { dst := some 6, op := Op.load 3 (Operand.tmp 5), type := 3, pos := "ref.go:202", after := #[{ on := 0, ground := Ground.data }], guard := none }) (v := ?_) rfl (by kernel_rfl) (by kernel_rfl) (by kernel_rfl) (fun _ _ _ h => h) (Or.inl ⟨by rfl, ?_⟩) hHeld ?_
    rotate_left
    · intro wz hSw
      go_simp
      all_goals (with_reducible rfl)
    try simp only [Act.put, List.setIfInBounds_toArray, List.set_cons_zero, List.set_cons_succ]
    refine wpAnyH_take (i := 2) (oi := { dst := some 7, op := Op.binOp BinOp.geq 3 (Operand.tmp 6) (Operand.const (Value.int IntKind.i64 0)) 3, type := 4, pos := "ref.go:202", after := #[{ on := 1, ground := Ground.data }], guard := none }) (v := ?_) rfl (by kernel_rfl) (by kernel_rfl) (by kernel_rfl) (fun _ _ _ h => h) (Or.inl ⟨by rfl, ?_⟩) hHeld ?_
    rotate_left
    · intro wz hSw
      go_simp
      all_goals (with_reducible rfl)
    try simp only [Act.put, List.setIfInBounds_toArray, List.set_cons_zero, List.set_cons_succ]
    refine wpAnyH_take (i := 3) (oi := { dst := some 8, op := Op.move (Operand.tmp 7), type := 4, pos := "ref.go:202", after := #[{ on := 2, ground := Ground.data }], guard := none }) (v := ?_) rfl (by kernel_rfl) (by kernel_rfl) (by kernel_rfl) (fun _ _ _ h => h) (Or.inl ⟨by rfl, ?_⟩) hHeld ?_
    rotate_left
    · intro wz hSw
      go_simp
      all_goals (with_reducible rfl)
    try simp only [Act.put, List.setIfInBounds_toArray, List.set_cons_zero, List.set_cons_succ]
    refine wpAnyH_take (i := 4) (oi := { dst := some 9, op := Op.fieldAddr 47 (Operand.tmp 3) 0, type := 0, pos := "ref.go:202", after := #[{ on := 3, ground := Ground.guard }], guard := some (3, true) }) (v := ?_) rfl (by kernel_rfl) (by kernel_rfl) (by kernel_rfl) (fun _ _ _ h => h) (Or.inl ⟨by rfl, ?_⟩) hHeld ?_
    rotate_left
    · intro wz hSw
      go_simp
      all_goals (with_reducible rfl)
    try simp only [Act.put, List.setIfInBounds_toArray, List.set_cons_zero, List.set_cons_succ]
    refine wpAnyH_take (i := 5) (oi := { dst := some 10, op := Op.load 3 (Operand.tmp 9), type := 3, pos := "ref.go:202", after := #[{ on := 4, ground := Ground.data }, { on := 3, ground := Ground.guard }], guard := some (3, true) }) (v := ?_) rfl (by kernel_rfl) (by kernel_rfl) (by kernel_rfl) (fun _ _ _ h => h) (Or.inl ⟨by rfl, ?_⟩) hHeld ?_
    rotate_left
    · intro wz hSw
      go_simp
      all_goals (with_reducible rfl)
    try simp only [Act.put, List.setIfInBounds_toArray, List.set_cons_zero, List.set_cons_succ]
    refine wpAnyH_take (i := 6) (oi := { dst := some 11, op := Op.binOp BinOp.lss 3 (Operand.tmp 10) (Operand.const (Value.int IntKind.i64 4)) 3, type := 4, pos := "ref.go:202", after := #[{ on := 5, ground := Ground.data }, { on := 3, ground := Ground.guard }], guard := some (3, true) }) (v := ?_) rfl (by kernel_rfl) (by kernel_rfl) (by kernel_rfl) (fun _ _ _ h => h) (Or.inl ⟨by rfl, ?_⟩) hHeld ?_
    rotate_left
    · intro wz hSw
      go_simp
      all_goals (with_reducible rfl)
    try simp only [Act.put, List.setIfInBounds_toArray, List.set_cons_zero, List.set_cons_succ]
    refine wpAnyH_take (i := 7) (oi := { dst := some 12, op := Op.pick (Operand.tmp 8) (Operand.tmp 11) (Operand.const (Value.bool false)), type := 4, pos := "ref.go:202", after := #[{ on := 3, ground := Ground.data }, { on := 6, ground := Ground.data }], guard := none }) (v := ?_) rfl (by kernel_rfl) (by kernel_rfl) (by kernel_rfl) (fun _ _ _ h => h) (Or.inl ⟨by rfl, ?_⟩) hHeld ?_
    rotate_left
    · intro wz hSw
      go_simp
      all_goals (with_reducible rfl)
    try simp only [Act.put, List.setIfInBounds_toArray, List.set_cons_zero, List.set_cons_succ]
    refine wpAnyH_take (i := 8) (oi := { dst := some 13, op := Op.move (Operand.tmp 12), type := 4, pos := "ref.go:202", after := #[{ on := 7, ground := Ground.data }, { on := 3, ground := Ground.chain }], guard := none }) (v := ?_) rfl (by kernel_rfl) (by kernel_rfl) (by kernel_rfl) (fun _ _ _ h => h) (Or.inl ⟨by rfl, ?_⟩) hHeld ?_
    rotate_left
    · intro wz hSw
      go_simp
      all_goals (with_reducible rfl)
    try simp only [Act.put, List.setIfInBounds_toArray, List.set_cons_zero, List.set_cons_succ]
    refine wpAnyH_take (i := 9) (oi := { dst := some 14, op := Op.fieldAddr 47 (Operand.tmp 3) 1, type := 0, pos := "ref.go:202", after := #[{ on := 8, ground := Ground.guard }], guard := some (8, true) }) (v := ?_) rfl (by kernel_rfl) (by kernel_rfl) (by kernel_rfl) (fun _ _ _ h => h) (Or.inl ⟨by rfl, ?_⟩) hHeld ?_
    rotate_left
    · intro wz hSw
      go_simp
      all_goals (with_reducible rfl)
    try simp only [Act.put, List.setIfInBounds_toArray, List.set_cons_zero, List.set_cons_succ]
    refine wpAnyH_take (i := 10) (oi := { dst := some 15, op := Op.load 3 (Operand.tmp 14), type := 3, pos := "ref.go:202", after := #[{ on := 9, ground := Ground.data }, { on := 8, ground := Ground.guard }], guard := some (8, true) }) (v := ?_) rfl (by kernel_rfl) (by kernel_rfl) (by kernel_rfl) (fun _ _ _ h => h) (Or.inl ⟨by rfl, ?_⟩) hHeld ?_
    rotate_left
    · intro wz hSw
      go_simp
      all_goals (with_reducible rfl)
    try simp only [Act.put, List.setIfInBounds_toArray, List.set_cons_zero, List.set_cons_succ]
    refine wpAnyH_take (i := 11) (oi := { dst := some 16, op := Op.binOp BinOp.geq 3 (Operand.tmp 15) (Operand.const (Value.int IntKind.i64 0)) 3, type := 4, pos := "ref.go:202", after := #[{ on := 10, ground := Ground.data }, { on := 8, ground := Ground.guard }], guard := some (8, true) }) (v := ?_) rfl (by kernel_rfl) (by kernel_rfl) (by kernel_rfl) (fun _ _ _ h => h) (Or.inl ⟨by rfl, ?_⟩) hHeld ?_
    rotate_left
    · intro wz hSw
      go_simp
      all_goals (with_reducible rfl)
    try simp only [Act.put, List.setIfInBounds_toArray, List.set_cons_zero, List.set_cons_succ]
    refine wpAnyH_take (i := 12) (oi := { dst := some 17, op := Op.pick (Operand.tmp 13) (Operand.tmp 16) (Operand.const (Value.bool false)), type := 4, pos := "ref.go:202", after := #[{ on := 8, ground := Ground.data }, { on := 11, ground := Ground.data }], guard := none }) (v := ?_) rfl (by kernel_rfl) (by kernel_rfl) (by kernel_rfl) (fun _ _ _ h => h) (Or.inl ⟨by rfl, ?_⟩) hHeld ?_
    rotate_left
    · intro wz hSw
      go_simp
      all_goals (with_reducible rfl)
    try simp only [Act.put, List.setIfInBounds_toArray, List.set_cons_zero, List.set_cons_succ]
    refine wpAnyH_take (i := 13) (oi := { dst := some 18, op := Op.move (Operand.tmp 17), type := 4, pos := "ref.go:202", after := #[{ on := 12, ground := Ground.data }, { on := 8, ground := Ground.chain }], guard := none }) (v := ?_) rfl (by kernel_rfl) (by kernel_rfl) (by kernel_rfl) (fun _ _ _ h => h) (Or.inl ⟨by rfl, ?_⟩) hHeld ?_
    rotate_left
    · intro wz hSw
      go_simp
      all_goals (with_reducible rfl)
    try simp only [Act.put, List.setIfInBounds_toArray, List.set_cons_zero, List.set_cons_succ]
    refine wpAnyH_take (i := 14) (oi := { dst := some 19, op := Op.fieldAddr 47 (Operand.tmp 3) 1, type := 0, pos := "ref.go:202", after := #[{ on := 13, ground := Ground.guard }], guard := some (13, true) }) (v := ?_) rfl (by kernel_rfl) (by kernel_rfl) (by kernel_rfl) (fun _ _ _ h => h) (Or.inl ⟨by rfl, ?_⟩) hHeld ?_
    rotate_left
    · intro wz hSw
      go_simp
      all_goals (with_reducible rfl)
    try simp only [Act.put, List.setIfInBounds_toArray, List.set_cons_zero, List.set_cons_succ]
    refine wpAnyH_take (i := 15) (oi := { dst := some 20, op := Op.load 3 (Operand.tmp 19), type := 3, pos := "ref.go:202", after := #[{ on := 14, ground := Ground.data }, { on := 13, ground := Ground.guard }], guard := some (13, true) }) (v := ?_) rfl (by kernel_rfl) (by kernel_rfl) (by kernel_rfl) (fun _ _ _ h => h) (Or.inl ⟨by rfl, ?_⟩) hHeld ?_
    rotate_left
    · intro wz hSw
      go_simp
      all_goals (with_reducible rfl)
    try simp only [Act.put, List.setIfInBounds_toArray, List.set_cons_zero, List.set_cons_succ]
    refine wpAnyH_take (i := 16) (oi := { dst := some 21, op := Op.binOp BinOp.lss 3 (Operand.tmp 20) (Operand.const (Value.int IntKind.i64 16)) 3, type := 4, pos := "ref.go:202", after := #[{ on := 15, ground := Ground.data }, { on := 13, ground := Ground.guard }], guard := some (13, true) }) (v := ?_) rfl (by kernel_rfl) (by kernel_rfl) (by kernel_rfl) (fun _ _ _ h => h) (Or.inl ⟨by rfl, ?_⟩) hHeld ?_
    rotate_left
    · intro wz hSw
      go_simp
      all_goals (with_reducible rfl)
    try simp only [Act.put, List.setIfInBounds_toArray, List.set_cons_zero, List.set_cons_succ]
    refine wpAnyH_take (i := 17) (oi := { dst := some 22, op := Op.pick (Operand.tmp 18) (Operand.tmp 21) (Operand.const (Value.bool false)), type := 4, pos := "ref.go:202", after := #[{ on := 13, ground := Ground.data }, { on := 16, ground := Ground.data }], guard := none }) (v := ?_) rfl (by kernel_rfl) (by kernel_rfl) (by kernel_rfl) (fun _ _ _ h => h) (Or.inl ⟨by rfl, ?_⟩) hHeld ?_
    rotate_left
    · intro wz hSw
      go_simp
      all_goals (with_reducible rfl)
    try simp only [Act.put, List.setIfInBounds_toArray, List.set_cons_zero, List.set_cons_succ]
    refine wpAnyH_take (i := 18) (oi := { dst := some 23, op := Op.move (Operand.tmp 22), type := 4, pos := "ref.go:202", after := #[{ on := 17, ground := Ground.data }, { on := 13, ground := Ground.chain }], guard := none }) (v := ?_) rfl (by kernel_rfl) (by kernel_rfl) (by kernel_rfl) (fun _ _ _ h => h) (Or.inl ⟨by rfl, ?_⟩) hHeld ?_
    rotate_left
    · intro wz hSw
      go_simp
      all_goals (with_reducible rfl)
    try simp only [Act.put, List.setIfInBounds_toArray, List.set_cons_zero, List.set_cons_succ]
    refine wpAnyH_take (i := 19) (oi := { dst := some 24, op := Op.fieldAddr 47 (Operand.tmp 3) 2, type := 0, pos := "ref.go:202", after := #[{ on := 18, ground := Ground.guard }], guard := some (18, true) }) (v := ?_) rfl (by kernel_rfl) (by kernel_rfl) (by kernel_rfl) (fun _ _ _ h => h) (Or.inl ⟨by rfl, ?_⟩) hHeld ?_
    rotate_left
    · intro wz hSw
      go_simp
      all_goals (with_reducible rfl)
    try simp only [Act.put, List.setIfInBounds_toArray, List.set_cons_zero, List.set_cons_succ]
    refine wpAnyH_take (i := 20) (oi := { dst := some 25, op := Op.load 3 (Operand.tmp 24), type := 3, pos := "ref.go:202", after := #[{ on := 19, ground := Ground.data }, { on := 18, ground := Ground.guard }], guard := some (18, true) }) (v := ?_) rfl (by kernel_rfl) (by kernel_rfl) (by kernel_rfl) (fun _ _ _ h => h) (Or.inl ⟨by rfl, ?_⟩) hHeld ?_
    rotate_left
    · intro wz hSw
      go_simp
      all_goals (with_reducible rfl)
    try simp only [Act.put, List.setIfInBounds_toArray, List.set_cons_zero, List.set_cons_succ]
    refine wpAnyH_take (i := 21) (oi := { dst := some 26, op := Op.binOp BinOp.geq 3 (Operand.tmp 25) (Operand.const (Value.int IntKind.i64 0)) 3, type := 4, pos := "ref.go:202", after := #[{ on := 20, ground := Ground.data }, { on := 18, ground := Ground.guard }], guard := some (18, true) }) (v := ?_) rfl (by kernel_rfl) (by kernel_rfl) (by kernel_rfl) (fun _ _ _ h => h) (Or.inl ⟨by rfl, ?_⟩) hHeld ?_
    rotate_left
    · intro wz hSw
      go_simp
      all_goals (with_reducible rfl)
    try simp only [Act.put, List.setIfInBounds_toArray, List.set_cons_zero, List.set_cons_succ]
    refine wpAnyH_take (i := 22) (oi := { dst := some 27, op := Op.pick (Operand.tmp 23) (Operand.tmp 26) (Operand.const (Value.bool false)), type := 4, pos := "ref.go:202", after := #[{ on := 18, ground := Ground.data }, { on := 21, ground := Ground.data }], guard := none }) (v := ?_) rfl (by kernel_rfl) (by kernel_rfl) (by kernel_rfl) (fun _ _ _ h => h) (Or.inl ⟨by rfl, ?_⟩) hHeld ?_
    rotate_left
    · intro wz hSw
      go_simp
      all_goals (with_reducible rfl)
    try simp only [Act.put, List.setIfInBounds_toArray, List.set_cons_zero, List.set_cons_succ]
    refine wpAnyH_take (i := 23) (oi := { dst := some 28, op := Op.move (Operand.tmp 27), type := 4, pos := "ref.go:202", after := #[{ on := 22, ground := Ground.data }, { on := 18, ground := Ground.chain }], guard := none }) (v := ?_) rfl (by kernel_rfl) (by kernel_rfl) (by kernel_rfl) (fun _ _ _ h => h) (Or.inl ⟨by rfl, ?_⟩) hHeld ?_
    rotate_left
    · intro wz hSw
      go_simp
      all_goals (with_reducible rfl)
    try simp only [Act.put, List.setIfInBounds_toArray, List.set_cons_zero, List.set_cons_succ]
    refine wpAnyH_take (i := 24) (oi := { dst := some 29, op := Op.fieldAddr 47 (Operand.tmp 3) 2, type := 0, pos := "ref.go:202", after := #[{ on := 23, ground := Ground.guard }], guard := some (23, true) }) (v := ?_) rfl (by kernel_rfl) (by kernel_rfl) (by kernel_rfl) (fun _ _ _ h => h) (Or.inl ⟨by rfl, ?_⟩) hHeld ?_
    rotate_left
    · intro wz hSw
      go_simp
      all_goals (with_reducible rfl)
    try simp only [Act.put, List.setIfInBounds_toArray, List.set_cons_zero, List.set_cons_succ]
    refine wpAnyH_take (i := 25) (oi := { dst := some 30, op := Op.load 3 (Operand.tmp 29), type := 3, pos := "ref.go:202", after := #[{ on := 24, ground := Ground.data }, { on := 23, ground := Ground.guard }], guard := some (23, true) }) (v := ?_) rfl (by kernel_rfl) (by kernel_rfl) (by kernel_rfl) (fun _ _ _ h => h) (Or.inl ⟨by rfl, ?_⟩) hHeld ?_
    rotate_left
    · intro wz hSw
      go_simp
      all_goals (with_reducible rfl)
    try simp only [Act.put, List.setIfInBounds_toArray, List.set_cons_zero, List.set_cons_succ]
    refine wpAnyH_take (i := 26) (oi := { dst := some 31, op := Op.binOp BinOp.leq 3 (Operand.tmp 30) (Operand.const (Value.int IntKind.i64 65536)) 3, type := 4, pos := "ref.go:202", after := #[{ on := 25, ground := Ground.data }, { on := 23, ground := Ground.guard }], guard := some (23, true) }) (v := ?_) rfl (by kernel_rfl) (by kernel_rfl) (by kernel_rfl) (fun _ _ _ h => h) (Or.inl ⟨by rfl, ?_⟩) hHeld ?_
    rotate_left
    · intro wz hSw
      go_simp
      all_goals (with_reducible rfl)
    try simp only [Act.put, List.setIfInBounds_toArray, List.set_cons_zero, List.set_cons_succ]
    refine wpAnyH_take (i := 27) (oi := { dst := some 32, op := Op.pick (Operand.tmp 28) (Operand.tmp 31) (Operand.const (Value.bool false)), type := 4, pos := "ref.go:202", after := #[{ on := 23, ground := Ground.data }, { on := 26, ground := Ground.data }], guard := none }) (v := ?_) rfl (by kernel_rfl) (by kernel_rfl) (by kernel_rfl) (fun _ _ _ h => h) (Or.inl ⟨by rfl, ?_⟩) hHeld ?_
    rotate_left
    · intro wz hSw
      go_simp
      all_goals (with_reducible rfl)
    try simp only [Act.put, List.setIfInBounds_toArray, List.set_cons_zero, List.set_cons_succ]
    refine wpAnyH_take (i := 28) (oi := { dst := some 33, op := Op.move (Operand.tmp 32), type := 4, pos := "ref.go:202", after := #[{ on := 27, ground := Ground.data }, { on := 23, ground := Ground.chain }], guard := none }) (v := ?_) rfl (by kernel_rfl) (by kernel_rfl) (by kernel_rfl) (fun _ _ _ h => h) (Or.inl ⟨by rfl, ?_⟩) hHeld ?_
    rotate_left
    · intro wz hSw
      go_simp
      all_goals (with_reducible rfl)
    try simp only [Act.put, List.setIfInBounds_toArray, List.set_cons_zero, List.set_cons_succ]
    refine wpAnyH_take (i := 29) (oi := { dst := some 34, op := Op.move (Operand.tmp 0), type := 3, pos := "ref.go:202", after := #[{ on := 28, ground := Ground.guard }], guard := some (28, true) }) (v := ?_) rfl (by kernel_rfl) (by kernel_rfl) (by kernel_rfl) (fun _ _ _ h => h) (Or.inl ⟨by rfl, ?_⟩) hHeld ?_
    rotate_left
    · intro wz hSw
      go_simp
      all_goals (with_reducible rfl)
    try simp only [Act.put, List.setIfInBounds_toArray, List.set_cons_zero, List.set_cons_succ]
    refine wpAnyH_take (i := 30) (oi := { dst := some 35, op := Op.load 47 (Operand.tmp 3), type := 47, pos := "ref.go:202", after := #[{ on := 28, ground := Ground.guard }], guard := some (28, true) }) rfl (by kernel_rfl) (by kernel_rfl) (by kernel_rfl) (fun _ _ _ h => h) (yieldsIf_load_mid (by rfl) _ _ rfl tb 0 rfl (r) _ (fun wz h => h.2.2.2.1) Tryz.underlying47 rfl (hri)) hHeld ?_
    try simp only [Act.put, List.setIfInBounds_toArray, List.set_cons_zero, List.set_cons_succ]
    refine wpAnyH_take (i := 32) (oi := { dst := some 37, op := Op.fieldAddr 47 (Operand.tmp 3) 4, type := 0, pos := "ref.go:202", after := #[{ on := 28, ground := Ground.guard }], guard := some (28, true) }) (v := ?_) rfl (by kernel_rfl) (by kernel_rfl) (by kernel_rfl) (fun _ _ _ h => h) (Or.inl ⟨by rfl, ?_⟩) hHeld ?_
    rotate_left
    · intro wz hSw
      go_simp
      all_goals (with_reducible rfl)
    try simp only [Act.put, List.setIfInBounds_toArray, List.set_cons_zero, List.set_cons_succ]
    refine wpAnyH_take (i := 33) (oi := { dst := some 38, op := Op.load 45 (Operand.tmp 37), type := 45, pos := "ref.go:202", after := #[{ on := 32, ground := Ground.data }, { on := 28, ground := Ground.guard }], guard := some (28, true) }) (v := ?_) rfl (by kernel_rfl) (by kernel_rfl) (by kernel_rfl) (fun _ _ _ h => h) (Or.inl ⟨by rfl, ?_⟩) hHeld ?_
    rotate_left
    · intro wz hSw
      go_simp
      all_goals (with_reducible rfl)
    try simp only [Act.put, List.setIfInBounds_toArray, List.set_cons_zero, List.set_cons_succ]
    refine wpAnyH_ready (rs := [31]) (by kernel_rfl) (by simp) ?_
    refine AllReadyH.cons (o := { dst := some 36, op := Op.call { callee := Callee.value (Operand.func 72), args := #[Operand.tmp 35], argTypes := #[47] }, type := 33, pos := "ref.go:202", after := #[{ on := 30, ground := Ground.data }, { on := 28, ground := Ground.chain }, { on := 28, ground := Ground.guard }], guard := some (28, true) }) rfl (fun K hK => ?_) AllReadyH.nil
    rw [if_pos (by rfl)]
    show Oper.wp _ _ _ _ K _
    go_simp
    go_at_call 72
    refine (hmsg.out _).mono ?_
    rintro e wq ⟨mb, rfl, hmb, hbq⟩
    have hsq := HeadW.nextB hr hbq hHeld
    have hbs := dig_bs hM' hmb
    refine hK.out _ _ hsq (fun hHeld => ?_)
    clear hK K
    try simp only [Act.put, List.setIfInBounds_toArray, List.set_cons_zero, List.set_cons_succ]
    refine wpAnyH_ready (rs := [34]) (by kernel_rfl) (by simp) ?_
    refine AllReadyH.cons (o := { dst := some 39, op := Op.call { callee := Callee.value (Operand.func 76), args := #[Operand.tmp 34, Operand.tmp 36, Operand.tmp 38], argTypes := #[3, 33, 45] }, type := 4, pos := "ref.go:202", after := #[{ on := 29, ground := Ground.data }, { on := 31, ground := Ground.data }, { on := 33, ground := Ground.data }, { on := 31, ground := Ground.chain }, { on := 28, ground := Ground.guard }], guard := some (28, true) }) rfl (fun K hK => ?_) AllReadyH.nil
    rw [if_pos (by rfl)]
    show Oper.wp _ _ _ _ K _
    go_simp
    go_at_call 76
    refine (hver'.out _ mb hbs).mono ?_
    rintro e w9 ⟨rfl, hb9⟩
    have hsq2 := HeadW.nextB hr hb9 hHeld
    refine hK.out _ _ hsq2 (fun hHeld => ?_)
    clear hK K
    try simp only [Act.put, List.setIfInBounds_toArray, List.set_cons_zero, List.set_cons_succ]
    refine wpAnyH_take (i := 35) (oi := { dst := some 40, op := Op.pick (Operand.tmp 33) (Operand.tmp 39) (Operand.const (Value.bool false)), type := 4, pos := "ref.go:202", after := #[{ on := 28, ground := Ground.data }, { on := 34, ground := Ground.data }], guard := none }) (v := ?_) rfl (by kernel_rfl) (by kernel_rfl) (by kernel_rfl) (fun _ _ _ h => h) (Or.inl ⟨by rfl, ?_⟩) hHeld ?_
    rotate_left
    · intro wz hSw
      go_simp
      all_goals (with_reducible rfl)
    try simp only [Act.put, List.setIfInBounds_toArray, List.set_cons_zero, List.set_cons_succ]
    refine wpAnyH_take (i := 36) (oi := { dst := some 4, op := Op.assign (Operand.tmp 40), type := 4, pos := "ref.go:202", after := #[{ on := 35, ground := Ground.data }, { on := 34, ground := Ground.chain }, { on := 0, ground := Ground.phase }, { on := 1, ground := Ground.phase }, { on := 2, ground := Ground.phase }, { on := 3, ground := Ground.phase }, { on := 4, ground := Ground.phase }, { on := 5, ground := Ground.phase }, { on := 6, ground := Ground.phase }, { on := 7, ground := Ground.phase }, { on := 8, ground := Ground.phase }, { on := 9, ground := Ground.phase }, { on := 10, ground := Ground.phase }, { on := 11, ground := Ground.phase }, { on := 12, ground := Ground.phase }, { on := 13, ground := Ground.phase }, { on := 14, ground := Ground.phase }, { on := 15, ground := Ground.phase }, { on := 16, ground := Ground.phase }, { on := 17, ground := Ground.phase }, { on := 18, ground := Ground.phase }, { on := 19, ground := Ground.phase }, { on := 20, ground := Ground.phase }, { on := 21, ground := Ground.phase }, { on := 22, ground := Ground.phase }, { on := 23, ground := Ground.phase }, { on := 24, ground := Ground.phase }, { on := 25, ground := Ground.phase }, { on := 26, ground := Ground.phase }, { on := 27, ground := Ground.phase }, { on := 28, ground := Ground.phase }, { on := 29, ground := Ground.phase }, { on := 30, ground := Ground.phase }, { on := 31, ground := Ground.phase }, { on := 32, ground := Ground.phase }, { on := 33, ground := Ground.phase }, { on := 34, ground := Ground.phase }, { on := 35, ground := Ground.phase }], guard := none }) (v := ?_) rfl (by kernel_rfl) (by kernel_rfl) (by kernel_rfl) (fun _ _ _ h => h) (Or.inl ⟨by rfl, ?_⟩) hHeld ?_
    rotate_left
    · intro wz hSw
      go_simp
      all_goals (with_reducible rfl)
    try simp only [Act.put, List.setIfInBounds_toArray, List.set_cons_zero, List.set_cons_succ]
    refine wpAnyH_done (by kernel_rfl) ?_ _
    go_wp2_with fail
    go_ret
    exact ⟨rfl, HeadW.bl hsq2⟩
  all_goals
    clear hver hmsg
    go_enter Tryz.func28, Tryz.ntmps28
    go_upto_region 1 with fail
    rw [htb.out]
    generalize w.alloc (.cells r.toArray 47) = w1 at *
    obtain ⟨c0, c1, c2, _, _, _, hHW⟩ := hW
    have hHW' := Lib.hid hHW
    clear hHW hone hri hu
    go_wp2_with fail
    go_quiet (fail)
    go_wp2_with fail
    go_ret
    exact fin.out _ ⟨hHW'.out.1, below_drewN' hHW'.out.2 _⟩ trivial
end Go.Proofs.YtlpgjdlkjahdgaaGreatDoor
namespace Go.Proofs.YtlpgjdlkjahdgaaGreatDoor
open Go.RowKit Go.Mem
open Go.Sto (Ent Lg St)
section
variable {w wz wq : World} {sb n c : Nat} {s : St} {a : Option Addr}
theorem SghW.grow {g : Nat} (h : SghW w sb s a n c wz) (hg : wz.grownBy wq (some g)) (hw : w.heap.size ≤ g) (hs : sb + 1 < g) : SghW w sb s a n c wq := by
  obtain ⟨r, hr, hl⟩ := h.hd
  exact ⟨h.st.grown hg (fun e => by injection e with e; omega), ⟨r, hr.grown hg (fun e => by injection e with e; omega), hl⟩, below_grown h.bel hg h.bel.size hw⟩
theorem SghW.drew (h : SghW w sb s a n c wz) : SghW w sb s a n c wz.drew := (SghW.next (SghW.mk' h) ((Below.refl _ _).drew)).2
end
theorem shareW {p G : Prop} (h : G → p) (key : G) : p := h key
theorem build_hd0 (W : World) : (Instr.build 47 #[]).run Tryz.prog W = .ok (.agg zeroHd.toArray) W := run_build W _ _ _ (by kernel_rfl)
theorem zeroHd_len : zeroHd.length = 37 := by simp [zeroHd, headC, bv_length]
theorem zeroHd_one : ∀ u ∈ zeroHd, u.oneCell' = true := (HeadR.mk (st := 0) (fo := 0) (no := 0) (R := 0) (S := 0) (D := List.replicate 32 0) rfl (by simp)).one
set_option maxRecDepth 20000 in
set_option maxHeartbeats 2000000 in
theorem r30signE_any (a : Option Addr) (n c : Nat) (s : St) (f : Int) (_hf : I64 f) (KE : Nat → Prop) (ea : Option Addr) (en ec : Nat) (es : List Ent) (w : World) (H : SV (fun _ => True) w a n c s) (HE : ES KE w ea en ec es) (hen : en ≤ 65536) (hq0 : Sto.openE s f ≠ 0) :
    Calls Tryz.prog 25 #[.agg #[.int .i64 s.id, .int .i64 s.priv, .slice a n c], .int .i64 f, .slice ea en ec] w (SignHPost zeroHd (Sto.openE s f) w) := by
  have H' := Lib.hid H; have HE' := Lib.hid HE
  clear H HE
  obtain ⟨sb, hsb⟩ : ∃ sb, Hid (w.heap.size = sb) := ⟨_, rfl⟩
  have hlen := HE'.out.rs.len
  have e0 : (0 : Int) ≤ (en : Int) := by omega
  have e1 : (en : Int) ≤ 65536 := by omega
  obtain ⟨W1, hW1⟩ : ∃ W1, W1 = (w.alloc (.cells #[.int .i64 s.id, .int .i64 s.priv, .slice a n c] 24)).alloc (.cells zeroHd.toArray 47) := ⟨_, rfl⟩
  have hB1 : Hid (Blk W1 sb 24 (stC s a n c)) := by rw [hW1, ← hsb.out]; exact (Blk.new w _ (stC s a n c)).alloc _
  have hB2 : Hid (Blk W1 (sb + 1) 47 zeroHd) := by
    have h := Blk.new (w.alloc (.cells #[.int .i64 s.id, .int .i64 s.priv, .slice a n c] 24)) 47 zeroHd
    rw [show (w.alloc (.cells #[.int .i64 s.id, .int .i64 s.priv, .slice a n c] 24)).heap.size = sb + 1 by rw [← hsb.out]; simp] at h
    rw [hW1]; exact h
  have hb1 : Hid (Below w.heap.size w W1) := by rw [hW1]; exact ((Below.refl _ w).alloc (Nat.le_refl _) _).alloc (by simp) _
  have hop := Lib.hid (r30open_any (fun _ => True) a n c s f W1 (H'.out.below hb1.out))
  have b0 := hB1.out.at_ (i := 0) rfl
  have b1 := hB1.out.at_ (i := 1) rfl
  have b2 := hB1.out.at_ (i := 2) rfl
  obtain ⟨q, hq⟩ : ∃ q, Hid (Sto.openE s f = q) := ⟨_, rfl⟩
  rw [hq.out] at hop hq0 ⊢
  have q0 : (q != 0) = true := by simpa using hq0
  have hqi : (Tryz.prog.info? 47).map (·.size) = some zeroHd.length := by rw [zeroHd_len]; exact sizeH
  clear hq
  go_enter Tryz.func25, Tryz.ntmps25
  go_upto_region 1 with fail
  rw [hsb.out]
  generalize hg : World.alloc (World.alloc w _) _ = Wg
  obtain rfl : W1 = Wg := by rw [← hg, hW1]; rfl
  clear hg hW1
  go_wp2_with fail
  refine hop.out.mono ?_
  rintro e w2 ⟨rfl, hb2⟩
  have hH2 := Lib.hid (hB2.out.below hb2 hB2.out.lt)
  have hbw := Lib.hid (hb1.out.trans (hb2.mono hb1.out.size))
  clear hop b0 b1 b2 hB1 hB2 hb1 hb2
  obtain ⟨W12, hP12⟩ := put_row (ty := 47) hH2.out (x := zeroHd) rfl (by rw [zeroHd_len]; exact sizeH) zeroHd_one
  have hP13 := Lib.hid hP12
  have hend : Hid (SignHPost zeroHd q w (.returned (.tuple #[.agg zeroHd.toArray, .int .i64 q])) W12) := ⟨rfl, below_grown hbw.out hP12.grown hbw.out.size (by have := hsb.out; omega)⟩
  have hbd := build_hd0
  clear hP12 hbw hH2
  generalize zeroHd = Z at *
  go_wp2_with (first
    | (refine wpList_build_run (by rfl) 47 _ rfl #[] (by simp) (hbd _) ?_)
    | (refine wpList_store_mid (by rfl) 47 _ _ (by rfl) (sb + 1) 0 Z.toArray (by rfl) (by rfl) hP13.out.there hP13.out.info (by simpa using hP13.out.one) ?_
       generalize hWq : World.setCells _ _ _ _ = Wa
       obtain rfl : W12 = Wa := by rw [← hWq]; exact hP13.out.eq
       clear hWq))
  exact ret_cell_tmpV (p := 6) (u := 7) rfl hP13.out.blk Tryz.underlying47 rfl hqi rfl rfl rfl hend.out

set_option maxRecDepth 20000 in
set_option maxHeartbeats 2000000 in
theorem storeSignE_any (a : Option Addr) (n c : Nat) (s : St) (f : Int) (_hf : I64 f) (KE : Nat → Prop) (ea : Option Addr) (en ec : Nat) (es : List Ent) (w : World) (HT : Tabs w) (H : SV (fun _ => True) w a n c s) (HE : ES KE w ea en ec es) (hen : en ≤ 65536) (hq0 : Sto.openE s f ≠ 0) :
    Calls Tryz.prog 24 #[.agg #[.int .i64 s.id, .int .i64 s.priv, .slice a n c], .int .i64 f, .slice ea en ec] w (SignHPost zeroHd (Sto.openE s f) w) := by
  have H' := Lib.hid H; have HE' := Lib.hid HE
  clear H HE
  obtain ⟨sb, hsb⟩ : ∃ sb, Hid (w.heap.size = sb) := ⟨_, rfl⟩
  have hlen := HE'.out.rs.len
  have e0 : (0 : Int) ≤ (en : Int) := by omega
  have e1 : (en : Int) ≤ 65536 := by omega
  obtain ⟨W1, hW1⟩ : ∃ W1, W1 = (w.alloc (.cells #[.int .i64 s.id, .int .i64 s.priv, .slice a n c] 24)).alloc (.cells zeroHd.toArray 47) := ⟨_, rfl⟩
  have hB1 : Hid (Blk W1 sb 24 (stC s a n c)) := by rw [hW1, ← hsb.out]; exact (Blk.new w _ (stC s a n c)).alloc _
  have hB2 : Hid (Blk W1 (sb + 1) 47 zeroHd) := by
    have h := Blk.new (w.alloc (.cells #[.int .i64 s.id, .int .i64 s.priv, .slice a n c] 24)) 47 zeroHd
    rw [show (w.alloc (.cells #[.int .i64 s.id, .int .i64 s.priv, .slice a n c] 24)).heap.size = sb + 1 by rw [← hsb.out]; simp] at h
    rw [hW1]; exact h
  have hb1 : Hid (Below w.heap.size w W1) := by rw [hW1]; exact ((Below.refl _ w).alloc (Nat.le_refl _) _).alloc (by simp) _
  have hop := Lib.hid (open_any (fun _ => True) a n c s f W1 (HT.below hb1.out) (H'.out.below hb1.out))
  have b0 := hB1.out.at_ (i := 0) rfl
  have b1 := hB1.out.at_ (i := 1) rfl
  have b2 := hB1.out.at_ (i := 2) rfl
  obtain ⟨q, hq⟩ : ∃ q, Hid (Sto.openE s f = q) := ⟨_, rfl⟩
  rw [hq.out] at hop hq0 ⊢
  have q0 : (q != 0) = true := by simpa using hq0
  have hqi : (Tryz.prog.info? 47).map (·.size) = some zeroHd.length := by rw [zeroHd_len]; exact sizeH
  clear hq
  go_enter Tryz.func24, Tryz.ntmps24
  go_upto_region 1 with fail
  rw [hsb.out]
  generalize hg : World.alloc (World.alloc w _) _ = Wg
  obtain rfl : W1 = Wg := by rw [← hg, hW1]; rfl
  clear hg hW1
  go_wp2_with fail
  refine hop.out.mono ?_
  rintro e w2 ⟨hb2, ⟨h, _⟩ | ⟨_, rfl⟩⟩
  case inl => exact absurd h hq0
  have hH2 := Lib.hid (hB2.out.below hb2 hB2.out.lt)
  have hbw := Lib.hid (hb1.out.trans (hb2.mono hb1.out.size))
  have hrZ := Lib.hid hH2.out.range
  clear HT hop b0 b1 b2 hB1 hB2 hb1 hb2
  obtain ⟨W12, hP12⟩ := put_row (ty := 47) hH2.out (x := zeroHd) rfl (by rw [zeroHd_len]; exact sizeH) zeroHd_one
  have hP13 := Lib.hid hP12
  have hend : Hid (SignHPost zeroHd q w (.returned (.tuple #[.agg zeroHd.toArray, .int .i64 q])) W12) := ⟨rfl, below_grown hbw.out hP12.grown hbw.out.size (by have := hsb.out; omega)⟩
  have hbd := build_hd0
  clear hP12 hbw hH2
  generalize zeroHd = Z at *
  go_wp2_with (first
    | (refine wpList_load_mid (by rfl) 47 _ (by rfl) (sb + 1) 0 (by rfl) Z _ hrZ.out Tryz.underlying47 (by rfl) hqi ?_)
    | (refine wpList_store_mid (by rfl) 47 _ _ (by rfl) (sb + 1) 0 Z.toArray (by rfl) (by rfl) hP13.out.there hP13.out.info (by simpa using hP13.out.one) ?_
       generalize hWq : World.setCells _ _ _ _ = Wa
       obtain rfl : W12 = Wa := by rw [← hWq]; exact hP13.out.eq
       clear hWq))
  exact ret_cell_tmpV (p := 6) (u := 7) rfl hP13.out.blk Tryz.underlying47 rfl hqi rfl rfl rfl hend.out


set_option maxRecDepth 20000 in
set_option maxHeartbeats 4000000 in
theorem r30sign_any (hb4 : Grp.ok 4 = true) (a : Option Addr) (n c : Nat) (s : St) (f : Int) (hf : I64 f) (KE : Nat → Prop) (ea : Option Addr) (en ec : Nat) (es : List Ent) (_hok : ∀ e ∈ es, OkE e) (w : World) (H : SV (fun _ => True) w a n c s) (HE : ES KE w ea en ec es) (hen : en ≤ 65536) (hop0 : Sto.openE s f = 0) :
    Calls Tryz.prog 25 #[.agg #[.int .i64 s.id, .int .i64 s.priv, .slice a n c], .int .i64 f, .slice ea en ec] w (SignHPost (signHd s f en (es.map (·.dig))) 0 w) := by
  have hb4' := Lib.hid hb4
  clear hb4
  have H' := Lib.hid H; have HE' := Lib.hid HE
  clear H HE
  obtain ⟨sb, hsb⟩ : ∃ sb, Hid (w.heap.size = sb) := ⟨_, rfl⟩
  have hlen := HE'.out.rs.len
  have e0 : (0 : Int) ≤ (en : Int) := by omega
  have e1 : (en : Int) ≤ 65536 := by omega
  obtain ⟨W1, hW1⟩ : ∃ W1, W1 = (w.alloc (.cells #[.int .i64 s.id, .int .i64 s.priv, .slice a n c] 24)).alloc (.cells zeroHd.toArray 47) := ⟨_, rfl⟩
  have hB1 : Hid (Blk W1 sb 24 (stC s a n c)) := by rw [hW1, ← hsb.out]; exact (Blk.new w _ (stC s a n c)).alloc _
  have hB2 : Hid (Blk W1 (sb + 1) 47 zeroHd) := by
    have h := Blk.new (w.alloc (.cells #[.int .i64 s.id, .int .i64 s.priv, .slice a n c] 24)) 47 zeroHd
    rw [show (w.alloc (.cells #[.int .i64 s.id, .int .i64 s.priv, .slice a n c] 24)).heap.size = sb + 1 by rw [← hsb.out]; simp] at h
    rw [hW1]; exact h
  have hb1 : Hid (Below w.heap.size w W1) := by rw [hW1]; exact ((Below.refl _ w).alloc (Nat.le_refl _) _).alloc (by simp) _
  have hop := Lib.hid (r30open_any (fun _ => True) a n c s f W1 (H'.out.below hb1.out))
  rw [hop0] at hop
  have b0 := hB1.out.at_ (i := 0) rfl
  have b1 := hB1.out.at_ (i := 1) rfl
  have b2 := hB1.out.at_ (i := 2) rfl
  have hcl2 := chain_len f (es.map (·.dig))
  obtain ⟨D, hD⟩ : ∃ D, Hid (chainD f (es.map (·.dig)) = D) := ⟨_, rfl⟩
  have hchn := Lib.hid (fun da dc W hDS => r30chain_any f hf da en dc (es.map (·.dig)) W hDS)
  rw [hD.out] at hcl2 hchn
  have hcl := hcl2.1
  obtain ⟨M, hM⟩ : ∃ M, Hid (headD s.id f en D = M) := ⟨_, rfl⟩
  obtain ⟨SV, hSV⟩ : ∃ V, Hid (signK 4 s.priv M = V) := ⟨_, rfl⟩
  have hM32 : Hid (M.length = 32 ∧ ∀ u ∈ M, u < 256) := by rw [← hM.out]; exact ⟨Sha.tagged_length _ _, Sha.tagged_lt _ _⟩
  have hmsg := Lib.hid (fun W => r30msg_any s.id f en 0 0 D H'.out.id hf ⟨by omega, by omega⟩ hcl2 W)
  have hsgn := Lib.hid (fun W mb (hB : BS W (some ⟨mb, 0, none⟩) 32 32 M) => r5sign_b 4 hb4'.out r4base_any s.priv (some ⟨mb, 0, none⟩) 32 32 M W (bw_of hB) (by omega))
  rw [hM.out] at hmsg
  rw [hSV.out] at hsgn
  obtain ⟨SR, SS, SE⟩ := SV
  obtain ⟨q, hq⟩ : ∃ q, Hid (headC s.id f en D SR SS = q) := ⟨_, rfl⟩
  have hql : q.length = 37 := by rw [← hq.out]; simp [headC, bv_length, hcl]
  have hfin0 : signHd s f en (es.map (·.dig)) = q := by
    unfold signHd
    rw [hD.out, hM.out, hSV.out, hq.out]
  rw [hfin0]
  have hse : SE = 0 ∨ True := .inr trivial
  obtain ⟨X, hX⟩ : ∃ X, X = SignHPost q 0 w := ⟨_, rfl⟩
  have hfin : Hid (∀ W, Below w.heap.size w W → X (.returned (.tuple #[.agg q.toArray, .int .i64 0])) W) := fun W h => by rw [hX]; exact ⟨rfl, h⟩
  rw [← hX]
  clear hX hfin0 hse
  obtain ⟨r, hr⟩ : ∃ r, Hid (headC s.id f en D 0 0 = r) := ⟨_, rfl⟩
  have hrl : r.length = 37 := by rw [← hr.out]; simp [headC, bv_length, hcl]
  have hsig := Lib.hid (fun W g (h : Blk W g 47 (headC s.id f en D 0 0)) => put_sig hcl h SR SS)
  rw [hq.out, hr.out] at hsig
  rw [hr.out] at hmsg
  have hone7 : ∀ u ∈ r, u.oneCell' = true := (HeadR.mk hr.out hcl).one
  have hbd := Lib.hid (fun W => head_build hcl s.id f (en : Int) W)
  rw [hr.out] at hbd
  have hu := Tryz.underlying47
  have hri : (Tryz.prog.info? 47).map (·.size) = some r.length := by rw [hrl]; exact sizeH
  have hqi : (Tryz.prog.info? 47).map (·.size) = some q.length := by rw [hql]; exact sizeH
  have hsz : Hid ((Tryz.prog.info? 45).map (·.size) = some (#[Value.int .i64 SR, Value.int .i64 SS] : Array Value).size) := by show _ = some 2; kernel_rfl
  have hone9 : ∀ u ∈ q, u.oneCell' = true := (HeadR.mk hq.out hcl).one
  have hdg := Lib.hid (fun W h => r30digs_any KE ea en ec es W h)
  have hdl : Hid ((es.map (·.dig)).length = en) := by show _ = _; rw [List.length_map, hlen]
  generalize es.map (·.dig) = ds at *
  clear hM hSV hq hD hr hlen hb4'
  go_enter Tryz.func25, Tryz.ntmps25
  go_upto_region 1 with fail
  rw [hsb.out]
  generalize hg : World.alloc (World.alloc w _) _ = Wg
  obtain rfl : W1 = Wg := by rw [← hg, hW1]; rfl
  clear hg hW1
  go_wp2_with fail
  refine hop.out.mono ?_
  rintro e w2 ⟨rfl, hb2⟩
  have hS2 : SghW w sb s a n c w2 := ⟨hB1.out.below hb2 hB1.out.lt, ⟨zeroHd, hB2.out.below hb2 hB2.out.lt, zeroHd_len⟩, hb1.out.trans (hb2.mono hb1.out.size)⟩
  have hS2' := Lib.hid hS2
  clear hop b0 b1 b2 hB1 hB2 hb1 hb2 hS2
  go_upto_region 6 with fail
  refine shareW (G := ∀ (da : Option Addr) (dc hb : Nat) (WZ : World), (WZ.cell? ⟨sb, 0, none⟩ = some (.int .i64 s.id) ∧ SghW w sb s a n c WZ) → Blk WZ hb 47 zeroHd → sb + 1 < hb → (?S3 : Option Addr → Nat → Nat → World → Prop) da dc hb WZ) ?h3 ?k3
  case' h3 => intro K3
  case h3 =>
    refine wp_region_held_drew (S := fun wz => wz.cell? ⟨sb, 0, none⟩ = some (.int .i64 s.id) ∧ SghW w sb s a n c wz) (by kernel_rfl) (SghW.mk' hS2'.out.drew) (fun hHeld => ?_)
    generalize w2.drew = W at *
    refine wpAnyH_take (i := 0) (oi := { dst := some 21, op := Op.fieldAddr 24 (Operand.tmp 3) 0, type := 0, pos := "ref.go:195", after := #[], guard := none }) (v := ?_) rfl (by kernel_rfl) (by kernel_rfl) (by kernel_rfl) (fun _ _ _ h => h) (Or.inl ⟨by rfl, ?_⟩) hHeld ?_
    rotate_left
    · intro wz hSw
      go_simp
      all_goals (with_reducible rfl)
    try simp only [Act.put, List.setIfInBounds_toArray, List.set_cons_zero, List.set_cons_succ]
    refine wpAnyH_take (i := 1) (oi := { dst := some 22, op := Op.load 3 (Operand.tmp 21), type := 3, pos := "ref.go:195", after := #[{ on := 0, ground := Ground.data }], guard := none }) (v := ?_) rfl (by kernel_rfl) (by kernel_rfl) (by kernel_rfl) (fun _ _ _ h => h) (Or.inl ⟨by rfl, ?_⟩) hHeld ?_
    rotate_left
    · intro wz hSw
      go_simp
      all_goals (with_reducible rfl)
    try simp only [Act.put, List.setIfInBounds_toArray, List.set_cons_zero, List.set_cons_succ]
    refine wpAnyH_take (i := 2) (oi := { dst := some 23, op := Op.move (Operand.tmp 1), type := 3, pos := "ref.go:195", after := #[], guard := none }) (v := ?_) rfl (by kernel_rfl) (by kernel_rfl) (by kernel_rfl) (fun _ _ _ h => h) (Or.inl ⟨by rfl, ?_⟩) hHeld ?_
    rotate_left
    · intro wz hSw
      go_simp
      all_goals (with_reducible rfl)
    try simp only [Act.put, List.setIfInBounds_toArray, List.set_cons_zero, List.set_cons_succ]
    refine wpAnyH_take (i := 3) (oi := { dst := some 24, op := Op.move (Operand.tmp 2), type := 36, pos := "ref.go:195", after := #[], guard := none }) (v := ?_) rfl (by kernel_rfl) (by kernel_rfl) (by kernel_rfl) (fun _ _ _ h => h) (Or.inl ⟨by rfl, ?_⟩) hHeld ?_
    rotate_left
    · intro wz hSw
      go_simp
      all_goals (with_reducible rfl)
    try simp only [Act.put, List.setIfInBounds_toArray, List.set_cons_zero, List.set_cons_succ]
    refine wpAnyH_take (i := 4) (oi := { dst := some 25, op := Op.call { callee := Callee.builtin Builtin.len, args := #[Operand.tmp 24], argTypes := #[36] }, type := 3, pos := "ref.go:195", after := #[{ on := 3, ground := Ground.data }], guard := none }) (v := ?_) rfl (by kernel_rfl) (by kernel_rfl) (by kernel_rfl) (fun _ _ _ h => h) (Or.inl ⟨by rfl, ?_⟩) hHeld ?_
    rotate_left
    · intro wz hSw
      go_simp
      all_goals (with_reducible rfl)
    try simp only [Act.put, List.setIfInBounds_toArray, List.set_cons_zero, List.set_cons_succ]
    refine wpAnyH_take (i := 5) (oi := { dst := some 26, op := Op.move (Operand.tmp 1), type := 3, pos := "ref.go:195", after := #[], guard := none }) (v := ?_) rfl (by kernel_rfl) (by kernel_rfl) (by kernel_rfl) (fun _ _ _ h => h) (Or.inl ⟨by rfl, ?_⟩) hHeld ?_
    rotate_left
    · intro wz hSw
      go_simp
      all_goals (with_reducible rfl)
    try simp only [Act.put, List.setIfInBounds_toArray, List.set_cons_zero, List.set_cons_succ]
    refine wpAnyH_take (i := 6) (oi := { dst := some 27, op := Op.move (Operand.tmp 2), type := 36, pos := "ref.go:195", after := #[], guard := none }) (v := ?_) rfl (by kernel_rfl) (by kernel_rfl) (by kernel_rfl) (fun _ _ _ h => h) (Or.inl ⟨by rfl, ?_⟩) hHeld ?_
    rotate_left
    · intro wz hSw
      go_simp
      all_goals (with_reducible rfl)
    try simp only [Act.put, List.setIfInBounds_toArray, List.set_cons_zero, List.set_cons_succ]
    refine wpAnyH_ready (rs := [7, 10]) (by kernel_rfl) (by simp) ?_
    refine AllReadyH.cons (o := { dst := some 28, op := Op.call { callee := Callee.value (Operand.func 32), args := #[Operand.tmp 27], argTypes := #[36] }, type := 58, pos := "ref.go:195", after := #[{ on := 6, ground := Ground.data }], guard := none }) rfl (fun K hK => ?_) (AllReadyH.cons (o := { dst := some 9, op := Op.alloc 47, type := 0, pos := "ref.go:195", after := #[], guard := none }) rfl (fun K hK => ?_) AllReadyH.nil)
    case refine_1 =>
      rw [if_pos (by rfl)]
      show Oper.wp _ _ _ _ K _
      go_simp
      go_at_call 32
      refine (hdg.out _ (HE'.out.below hHeld.2.bel)).mono ?_
      rintro e W5 ⟨da, dc, rfl, hD5, hb5⟩
      rw [hdl.out] at hD5 ⊢
      refine hK.out _ _ (SghW.next hHeld hb5) (fun hHeld2 => ?_)
      clear hK K
      try simp only [Act.put, List.setIfInBounds_toArray, List.set_cons_zero, List.set_cons_succ]
      clear hHeld
      have hHeld := hHeld2
      clear hHeld2

      refine wpAnyH_ready (rs := [8, 10]) (by kernel_rfl) (by simp) ?_
      refine AllReadyH.cons (o := { dst := some 29, op := Op.call { callee := Callee.value (Operand.func 33), args := #[Operand.tmp 26, Operand.tmp 28], argTypes := #[3, 58] }, type := 43, pos := "ref.go:195", after := #[{ on := 5, ground := Ground.data }, { on := 7, ground := Ground.data }, { on := 7, ground := Ground.chain }], guard := none }) rfl (fun K hK => ?_) (AllReadyH.cons (o := { dst := some 9, op := Op.alloc 47, type := 0, pos := "ref.go:195", after := #[], guard := none }) rfl (fun K hK => ?_) AllReadyH.nil)
      case refine_1 =>
        rw [if_pos (by rfl)]
        show Oper.wp _ _ _ _ K _
        go_simp
        go_at_call 33
        refine (hchn.out da dc W5 hD5).mono ?_
        rintro e W6 ⟨rfl, hb6⟩
        refine hK.out _ _ (SghW.next hHeld hb6) (fun hHeld2 => ?_)
        clear hK K
        try simp only [Act.put, List.setIfInBounds_toArray, List.set_cons_zero, List.set_cons_succ]
        clear hHeld
        have hHeld := hHeld2
        clear hHeld2

        refine wpAnyH_take (i := 9) (oi := { dst := some 30, op := Op.build 47 #[(0, Operand.tmp 22), (1, Operand.tmp 23), (2, Operand.tmp 25), (3, Operand.tmp 29)], type := 47, pos := "ref.go:195", after := #[{ on := 1, ground := Ground.data }, { on := 2, ground := Ground.data }, { on := 4, ground := Ground.data }, { on := 8, ground := Ground.data }], guard := none }) rfl (by kernel_rfl) (by kernel_rfl) (by kernel_rfl) (fun _ _ _ h => h) (hold_build (by rfl) _ _ rfl #[(0, .int .i64 s.id), (1, .int .i64 f), (2, .int .i64 (en : Int)), (3, .agg (bv D).toArray)] (by simp only [List.map_toArray, List.map_cons, List.map_nil]; rfl) hbd.out) hHeld ?_
        try simp only [Act.put, List.setIfInBounds_toArray, List.set_cons_zero, List.set_cons_succ]
        refine wpAnyH_ready (rs := [10]) (by kernel_rfl) (by simp) ?_
        refine AllReadyH.cons (o := { dst := some 9, op := Op.alloc 47, type := 0, pos := "ref.go:195", after := #[], guard := none }) rfl (fun K hK => ?_) AllReadyH.nil
        rw [if_pos (by rfl)]
        show Oper.wp _ _ _ _ K _
        go_simp
        obtain ⟨hb, hhb⟩ : ∃ hb, W6.heap.size = hb := ⟨_, rfl⟩
        have hbl : Blk (W6.alloc (.cells zeroHd.toArray 47)) hb 47 zeroHd := by rw [← hhb]; exact Blk.new W6 47 zeroHd
        have hsl : sb + 1 < hb := by obtain ⟨r0, hr0, _⟩ := hHeld.2.hd; rw [← hhb]; exact hr0.lt
        obtain ⟨V6, hV⟩ : ∃ V, W6.alloc (.cells zeroHd.toArray 47) = V := ⟨_, rfl⟩
        have hsv : W6.heap.size ≤ V6.heap.size := by rw [← hV]; simp
        have hHeld3 := SghW.alloc hHeld (.cells zeroHd.toArray 47)
        have hbv := (Below.refl W6.heap.size W6).alloc (Nat.le_refl _) (.cells zeroHd.toArray 47)
        rw [hV] at hbl hHeld3 hbv
        generalize hWq : World.alloc W6 _ = Wq
        obtain rfl : V6 = Wq := by rw [← hWq, ← hV]; rfl
        rw [hhb]
        refine hK.out _ _ hHeld3 (fun hHeld2 => ?_)
        clear hWq hV hhb hHeld3 hK K
        try simp only [Act.put, List.setIfInBounds_toArray, List.set_cons_zero, List.set_cons_succ]
        clear hHeld
        have hHeld := hHeld2
        clear hHeld2

        have hbl2 := hbl
        exact K3 da dc hb V6 hHeld hbl2 hsl
      case refine_2 =>
        rw [if_pos (by rfl)]
        show Oper.wp _ _ _ _ K _
        go_simp
        obtain ⟨hb, hhb⟩ : ∃ hb, W5.heap.size = hb := ⟨_, rfl⟩
        have hbl : Blk (W5.alloc (.cells zeroHd.toArray 47)) hb 47 zeroHd := by rw [← hhb]; exact Blk.new W5 47 zeroHd
        have hsl : sb + 1 < hb := by obtain ⟨r0, hr0, _⟩ := hHeld.2.hd; rw [← hhb]; exact hr0.lt
        obtain ⟨V5, hV⟩ : ∃ V, W5.alloc (.cells zeroHd.toArray 47) = V := ⟨_, rfl⟩
        have hsv : W5.heap.size ≤ V5.heap.size := by rw [← hV]; simp
        have hHeld3 := SghW.alloc hHeld (.cells zeroHd.toArray 47)
        have hbv := (Below.refl W5.heap.size W5).alloc (Nat.le_refl _) (.cells zeroHd.toArray 47)
        rw [hV] at hbl hHeld3 hbv
        generalize hWq : World.alloc W5 _ = Wq
        obtain rfl : V5 = Wq := by rw [← hWq, ← hV]; rfl
        rw [hhb]
        refine hK.out _ _ hHeld3 (fun hHeld2 => ?_)
        clear hWq hV hhb hHeld3 hK K
        try simp only [Act.put, List.setIfInBounds_toArray, List.set_cons_zero, List.set_cons_succ]
        clear hHeld
        have hHeld := hHeld2
        clear hHeld2

        refine wpAnyH_ready (rs := [8]) (by kernel_rfl) (by simp) ?_
        refine AllReadyH.cons (o := { dst := some 29, op := Op.call { callee := Callee.value (Operand.func 33), args := #[Operand.tmp 26, Operand.tmp 28], argTypes := #[3, 58] }, type := 43, pos := "ref.go:195", after := #[{ on := 5, ground := Ground.data }, { on := 7, ground := Ground.data }, { on := 7, ground := Ground.chain }], guard := none }) rfl (fun K hK => ?_) AllReadyH.nil
        rw [if_pos (by rfl)]
        show Oper.wp _ _ _ _ K _
        go_simp
        go_at_call 33
        refine (hchn.out da dc V5 (hD5.below hbv)).mono ?_
        rintro e W6 ⟨rfl, hb6⟩
        refine hK.out _ _ (SghW.next hHeld hb6) (fun hHeld2 => ?_)
        clear hK K
        try simp only [Act.put, List.setIfInBounds_toArray, List.set_cons_zero, List.set_cons_succ]
        clear hHeld
        have hHeld := hHeld2
        clear hHeld2

        refine wpAnyH_take (i := 9) (oi := { dst := some 30, op := Op.build 47 #[(0, Operand.tmp 22), (1, Operand.tmp 23), (2, Operand.tmp 25), (3, Operand.tmp 29)], type := 47, pos := "ref.go:195", after := #[{ on := 1, ground := Ground.data }, { on := 2, ground := Ground.data }, { on := 4, ground := Ground.data }, { on := 8, ground := Ground.data }], guard := none }) rfl (by kernel_rfl) (by kernel_rfl) (by kernel_rfl) (fun _ _ _ h => h) (hold_build (by rfl) _ _ rfl #[(0, .int .i64 s.id), (1, .int .i64 f), (2, .int .i64 (en : Int)), (3, .agg (bv D).toArray)] (by simp only [List.map_toArray, List.map_cons, List.map_nil]; rfl) hbd.out) hHeld ?_
        try simp only [Act.put, List.setIfInBounds_toArray, List.set_cons_zero, List.set_cons_succ]
        have hbl2 := hbl.below hb6 hbl.lt
        exact K3 da dc hb W6 hHeld hbl2 hsl
    case refine_2 =>
      rw [if_pos (by rfl)]
      show Oper.wp _ _ _ _ K _
      go_simp
      obtain ⟨hb, hhb⟩ : ∃ hb, W.heap.size = hb := ⟨_, rfl⟩
      have hbl : Blk (W.alloc (.cells zeroHd.toArray 47)) hb 47 zeroHd := by rw [← hhb]; exact Blk.new W 47 zeroHd
      have hsl : sb + 1 < hb := by obtain ⟨r0, hr0, _⟩ := hHeld.2.hd; rw [← hhb]; exact hr0.lt
      obtain ⟨V, hV⟩ : ∃ V, W.alloc (.cells zeroHd.toArray 47) = V := ⟨_, rfl⟩
      have hsv : W.heap.size ≤ V.heap.size := by rw [← hV]; simp
      have hHeld3 := SghW.alloc hHeld (.cells zeroHd.toArray 47)
      have hbv := (Below.refl W.heap.size W).alloc (Nat.le_refl _) (.cells zeroHd.toArray 47)
      rw [hV] at hbl hHeld3 hbv
      generalize hWq : World.alloc W _ = Wq
      obtain rfl : V = Wq := by rw [← hWq, ← hV]; rfl
      rw [hhb]
      refine hK.out _ _ hHeld3 (fun hHeld2 => ?_)
      clear hWq hV hhb hHeld3 hK K
      try simp only [Act.put, List.setIfInBounds_toArray, List.set_cons_zero, List.set_cons_succ]
      clear hHeld
      have hHeld := hHeld2
      clear hHeld2

      refine wpAnyH_ready (rs := [7]) (by kernel_rfl) (by simp) ?_
      refine AllReadyH.cons (o := { dst := some 28, op := Op.call { callee := Callee.value (Operand.func 32), args := #[Operand.tmp 27], argTypes := #[36] }, type := 58, pos := "ref.go:195", after := #[{ on := 6, ground := Ground.data }], guard := none }) rfl (fun K hK => ?_) AllReadyH.nil
      rw [if_pos (by rfl)]
      show Oper.wp _ _ _ _ K _
      go_simp
      go_at_call 32
      refine (hdg.out _ (HE'.out.below hHeld.2.bel)).mono ?_
      rintro e W5 ⟨da, dc, rfl, hD5, hb5⟩
      rw [hdl.out] at hD5 ⊢
      refine hK.out _ _ (SghW.next hHeld hb5) (fun hHeld2 => ?_)
      clear hK K
      try simp only [Act.put, List.setIfInBounds_toArray, List.set_cons_zero, List.set_cons_succ]
      clear hHeld
      have hHeld := hHeld2
      clear hHeld2

      refine wpAnyH_ready (rs := [8]) (by kernel_rfl) (by simp) ?_
      refine AllReadyH.cons (o := { dst := some 29, op := Op.call { callee := Callee.value (Operand.func 33), args := #[Operand.tmp 26, Operand.tmp 28], argTypes := #[3, 58] }, type := 43, pos := "ref.go:195", after := #[{ on := 5, ground := Ground.data }, { on := 7, ground := Ground.data }, { on := 7, ground := Ground.chain }], guard := none }) rfl (fun K hK => ?_) AllReadyH.nil
      rw [if_pos (by rfl)]
      show Oper.wp _ _ _ _ K _
      go_simp
      go_at_call 33
      refine (hchn.out da dc W5 hD5).mono ?_
      rintro e W6 ⟨rfl, hb6⟩
      refine hK.out _ _ (SghW.next hHeld hb6) (fun hHeld2 => ?_)
      clear hK K
      try simp only [Act.put, List.setIfInBounds_toArray, List.set_cons_zero, List.set_cons_succ]
      clear hHeld
      have hHeld := hHeld2
      clear hHeld2

      refine wpAnyH_take (i := 9) (oi := { dst := some 30, op := Op.build 47 #[(0, Operand.tmp 22), (1, Operand.tmp 23), (2, Operand.tmp 25), (3, Operand.tmp 29)], type := 47, pos := "ref.go:195", after := #[{ on := 1, ground := Ground.data }, { on := 2, ground := Ground.data }, { on := 4, ground := Ground.data }, { on := 8, ground := Ground.data }], guard := none }) rfl (by kernel_rfl) (by kernel_rfl) (by kernel_rfl) (fun _ _ _ h => h) (hold_build (by rfl) _ _ rfl #[(0, .int .i64 s.id), (1, .int .i64 f), (2, .int .i64 (en : Int)), (3, .agg (bv D).toArray)] (by simp only [List.map_toArray, List.map_cons, List.map_nil]; rfl) hbd.out) hHeld ?_
      try simp only [Act.put, List.setIfInBounds_toArray, List.set_cons_zero, List.set_cons_succ]
      have hbl2 := (hbl.below hb5 hbl.lt).below hb6 (hbl.below hb5 hbl.lt).lt
      exact K3 da dc hb W6 hHeld hbl2 hsl
  case k3 =>
    intro da dc hb WZ hHeld hbl hsl
    obtain ⟨W7, hP⟩ := put_row (ty := 47) hbl (x := r) (by rw [hrl, zeroHd_len]) (by rw [hrl]; exact sizeH) hone7
    have hS7 := hHeld.2.grow hP.grown (by have := hsb.out; omega) hsl
    refine wpAnyH_ready (rs := [11]) (by kernel_rfl) (by simp) ?_
    refine AllReadyH.cons (o := { dst := none, op := Op.store 47 (Operand.tmp 9) (Operand.tmp 30), type := 0, pos := "ref.go:195", after := #[{ on := 10, ground := Ground.data }, { on := 9, ground := Ground.data }, { on := 8, ground := Ground.chain }, { on := 0, ground := Ground.phase }, { on := 1, ground := Ground.phase }, { on := 2, ground := Ground.phase }, { on := 3, ground := Ground.phase }, { on := 4, ground := Ground.phase }, { on := 5, ground := Ground.phase }, { on := 6, ground := Ground.phase }, { on := 7, ground := Ground.phase }, { on := 8, ground := Ground.phase }, { on := 9, ground := Ground.phase }, { on := 10, ground := Ground.phase }], guard := none }) rfl (fun K hK => ?_) AllReadyH.nil
    rw [if_pos (by rfl)]
    refine wp_store_mid 47 _ _ rfl hb 0 r.toArray (by rfl) (by rfl) hP.there hP.info (by simpa using hP.one) ?_
    generalize hWq : World.setCells _ _ _ _ = Wa
    obtain rfl : W7 = Wa := by rw [← hWq]; exact hP.eq
    clear hWq
    refine hK.out _ _ (SghW.mk' hS7) (fun hHeld2 => ?_)
    clear hK K
    try simp only [Act.put]
    refine wpAnyH_done (by kernel_rfl) ?_ _
    have hBr7 := Lib.hid hP.blk
    have hS7' := Lib.hid hS7
    have hsl' := Lib.hid hsl
    clear hHeld hHeld2 hP hS7 hbl hsl
    go_upto_region 7 with fail
    refine wp_region_held_drew (S := fun wz => wz.cell? ⟨sb, 1, none⟩ = some (.int .i64 s.priv) ∧ SghW w sb s a n c wz) (by kernel_rfl) (SghW.mk1 hS7'.out.drew) (fun hHeld => ?_)
    have hBr8 : Hid (Blk W7.drew hb 47 r) := hBr7.out.below ((Below.refl _ _).drew) hBr7.out.lt
    generalize W7.drew = W8 at *
    clear hBr7 hS7'
    refine wpAnyH_take (i := 0) (oi := { dst := some 32, op := Op.fieldAddr 24 (Operand.tmp 3) 1, type := 0, pos := "ref.go:196", after := #[], guard := none }) (v := ?_) rfl (by kernel_rfl) (by kernel_rfl) (by kernel_rfl) (fun _ _ _ h => h) (Or.inl ⟨by rfl, ?_⟩) hHeld ?_
    rotate_left
    · intro wz hSw
      go_simp
      all_goals (with_reducible rfl)
    try simp only [Act.put, List.setIfInBounds_toArray, List.set_cons_zero, List.set_cons_succ]
    refine wpAnyH_take (i := 1) (oi := { dst := some 33, op := Op.load 3 (Operand.tmp 32), type := 3, pos := "ref.go:196", after := #[{ on := 0, ground := Ground.data }], guard := none }) (v := ?_) rfl (by kernel_rfl) (by kernel_rfl) (by kernel_rfl) (fun _ _ _ h => h) (Or.inl ⟨by rfl, ?_⟩) hHeld ?_
    rotate_left
    · intro wz hSw
      go_simp
      all_goals (with_reducible rfl)
    try simp only [Act.put, List.setIfInBounds_toArray, List.set_cons_zero, List.set_cons_succ]
    refine wpAnyH_ready (rs := [2]) (by kernel_rfl) (by simp) ?_
    refine AllReadyH.cons (o := { dst := some 34, op := Op.load 47 (Operand.tmp 9), type := 47, pos := "ref.go:196", after := #[], guard := none }) rfl (fun K hK => ?_) AllReadyH.nil
    rw [if_pos (by rfl)]
    refine wp_load_mid 47 _ rfl hb 0 rfl r _ hBr8.out.range hu rfl hri ?_
    refine hK.out _ _ hHeld (fun hHeld => ?_)
    clear hK K
    try simp only [Act.put, List.setIfInBounds_toArray, List.set_cons_zero, List.set_cons_succ]
    refine wpAnyH_ready (rs := [3]) (by kernel_rfl) (by simp) ?_
    refine AllReadyH.cons (o := { dst := some 35, op := Op.call { callee := Callee.value (Operand.func 72), args := #[Operand.tmp 34], argTypes := #[47] }, type := 33, pos := "ref.go:196", after := #[{ on := 2, ground := Ground.data }], guard := none }) rfl (fun K hK => ?_) AllReadyH.nil
    rw [if_pos (by rfl)]
    show Oper.wp _ _ _ _ K _
    go_simp
    go_at_call 72
    refine (hmsg.out _).mono ?_
    rintro e w8 ⟨mb, rfl, hm8, hb8⟩
    have hBr9 := hBr8.out.below hb8 hBr8.out.lt
    refine hK.out _ _ (SghW.next1 hHeld hb8) (fun hHeld => ?_)
    clear hK K
    try simp only [Act.put, List.setIfInBounds_toArray, List.set_cons_zero, List.set_cons_succ]
    refine wpAnyH_ready (rs := [4]) (by kernel_rfl) (by simp) ?_
    refine AllReadyH.cons (o := { dst := some 36, op := Op.call { callee := Callee.value (Operand.func 71), args := #[Operand.tmp 33, Operand.tmp 35], argTypes := #[3, 33] }, type := 103, pos := "ref.go:196", after := #[{ on := 1, ground := Ground.data }, { on := 3, ground := Ground.data }, { on := 3, ground := Ground.chain }], guard := none }) rfl (fun K hK => ?_) AllReadyH.nil
    rw [if_pos (by rfl)]
    show Oper.wp _ _ _ _ K _
    go_simp
    go_at_call 71
    refine (hsgn.out _ mb (dig_bs hM32.out hm8)).mono ?_
    rintro e w9 ⟨rfl, hb9⟩
    have hBr10 := hBr9.below hb9 hBr9.lt
    refine hK.out _ _ (SghW.next1 hHeld hb9) (fun hHeld => ?_)
    clear hK K
    refine wpAnyH_take (i := 5) (oi := { dst := some 31, op := Op.move (Operand.tmp 36), type := 103, pos := "ref.go:196", after := #[{ on := 4, ground := Ground.data }], guard := none }) (v := ?_) rfl (by kernel_rfl) (by kernel_rfl) (by kernel_rfl) (fun _ _ _ h => h) (Or.inl ⟨by rfl, ?_⟩) hHeld ?_
    rotate_left
    · intro wz hSw
      go_simp
      all_goals (with_reducible rfl)
    try simp only [Act.put, List.setIfInBounds_toArray, List.set_cons_zero, List.set_cons_succ]
    refine wpAnyH_take (i := 6) (oi := { dst := some 37, op := Op.extract (Operand.tmp 31) 0, type := 45, pos := "ref.go:196", after := #[{ on := 5, ground := Ground.data }], guard := none }) (v := ?_) rfl (by kernel_rfl) (by kernel_rfl) (by kernel_rfl) (fun _ _ _ h => h) (Or.inl ⟨by rfl, ?_⟩) hHeld ?_
    rotate_left
    · intro wz hSw
      go_simp
      all_goals (with_reducible rfl)
    try simp only [Act.put, List.setIfInBounds_toArray, List.set_cons_zero, List.set_cons_succ]
    refine wpAnyH_take (i := 7) (oi := { dst := some 38, op := Op.extract (Operand.tmp 31) 1, type := 27, pos := "ref.go:196", after := #[{ on := 5, ground := Ground.data }, { on := 9, ground := Ground.gcOnly Departure.lateStores }], guard := none }) (v := ?_) rfl (by kernel_rfl) (by kernel_rfl) (by kernel_rfl) (fun _ _ _ h => h) (Or.inl ⟨by rfl, ?_⟩) hHeld ?_
    rotate_left
    · intro wz hSw
      go_simp
      all_goals (with_reducible rfl)
    try simp only [Act.put, List.setIfInBounds_toArray, List.set_cons_zero, List.set_cons_succ]
    refine wpAnyH_take (i := 8) (oi := { dst := some 39, op := Op.fieldAddr 47 (Operand.tmp 9) 4, type := 0, pos := "ref.go:196", after := #[{ on := 0, ground := Ground.phase }, { on := 1, ground := Ground.phase }, { on := 2, ground := Ground.phase }, { on := 3, ground := Ground.phase }, { on := 4, ground := Ground.phase }, { on := 5, ground := Ground.phase }, { on := 6, ground := Ground.phase }, { on := 7, ground := Ground.textOnly Departure.lateStores }], guard := none }) (v := ?_) rfl (by kernel_rfl) (by kernel_rfl) (by kernel_rfl) (fun _ _ _ h => h) (Or.inl ⟨by rfl, ?_⟩) hHeld ?_
    rotate_left
    · intro wz hSw
      go_simp
      all_goals (with_reducible rfl)
    try simp only [Act.put, List.setIfInBounds_toArray, List.set_cons_zero, List.set_cons_succ]
    obtain ⟨W10, hP10⟩ := hsig.out _ hb hBr10
    have hP11 := Lib.hid hP10
    have hS10 := hHeld.2.grow hP11.out.grown (by have := hsb.out; have := hsl'.out; omega) hsl'.out
    refine wpAnyH_ready (rs := [9]) (by kernel_rfl) (by simp) ?_
    refine AllReadyH.cons (o := { dst := none, op := Op.store 45 (Operand.tmp 39) (Operand.tmp 37), type := 0, pos := "ref.go:196", after := #[{ on := 8, ground := Ground.data }, { on := 6, ground := Ground.data }, { on := 4, ground := Ground.chain }, { on := 0, ground := Ground.phase }, { on := 1, ground := Ground.phase }, { on := 2, ground := Ground.phase }, { on := 3, ground := Ground.phase }, { on := 4, ground := Ground.phase }, { on := 5, ground := Ground.phase }, { on := 6, ground := Ground.phase }, { on := 7, ground := Ground.textOnly Departure.lateStores }], guard := none }) rfl (fun K hK => ?_) AllReadyH.nil
    rw [if_pos (by rfl)]
    refine wp_store_mid 45 _ _ rfl hb 35 #[.int .i64 SR, .int .i64 SS] (by rfl) (by rfl) hP11.out.there hsz.out (by rw [List.all_toArray]; rfl) ?_
    generalize hWq : World.setCells _ _ _ _ = Wa
    obtain rfl : W10 = Wa := by rw [← hWq]; exact hP11.out.eq
    clear hWq
    refine hK.out _ _ (SghW.mk1 hS10) (fun hHeld2 => ?_)
    clear hK K
    try simp only [Act.put]
    refine wpAnyH_done (by kernel_rfl) ?_ _
    have hBq := Lib.hid hP11.out.blk
    obtain ⟨r0, hr0, hl0⟩ := hS10.hd
    obtain ⟨W12, hP12⟩ := put_row (ty := 47) hr0 (x := q) (by rw [hql, hl0]) (by rw [hql]; exact sizeH) hone9
    have hP13 := Lib.hid hP12
    have hbq12 := Lib.hid (below_grown hS10.bel hP13.out.grown hS10.bel.size (by have := hsb.out; omega))
    have hrq := hBq.out.range
    have hend := Lib.hid (hfin.out _ hbq12.out)
    clear hHeld hHeld2 hP10 hP11 hS10 hr0 hl0 hP12 hbq12 hBr10 hBr9 hBr8
    go_wp2_with (first
      | (refine wpList_load_mid (by rfl) 47 _ (by rfl) hb 0 (by rfl) q _ hrq hu (by rfl) hqi ?_)
      | (refine wpList_store_mid (by rfl) 47 _ _ (by rfl) (sb + 1) 0 q.toArray (by rfl) (by rfl) hP13.out.there hP13.out.info (by simpa using hP13.out.one) ?_
         generalize hWq : World.setCells _ _ _ _ = Wa
         obtain rfl : W12 = Wa := by rw [← hWq]; exact hP13.out.eq
         clear hWq))
    exact ret_cell_tmpV (p := 6) (u := 7) rfl hP13.out.blk Tryz.underlying47 rfl hqi rfl rfl rfl hend.out
end Go.Proofs.YtlpgjdlkjahdgaaGreatDoor
