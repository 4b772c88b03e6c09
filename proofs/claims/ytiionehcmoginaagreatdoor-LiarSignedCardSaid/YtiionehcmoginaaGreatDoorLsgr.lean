/- LiarSigned: the walk -/
import Derived.Test.YtiionehcmoginaaGreatDoorLiC
import Derived.Test.YtiionehcmoginaaGreatDoorCards
import Derived.Test.YtiionehcmoginaaGreatDoorTie
import Derived.SevenTiedAt
import Derived.Deep.DeepHandedRow
import Derived.Deep.DeepWitnessRowRef
namespace Go.Proofs.YtiionehcmoginaaGreatDoor
open Go.RowKit Go.Mem Go.Shelf
open Go.Sto (Ent St Rul forkE BdL)
open Go.Vw (Hd Sg eqH)

/-- what the last line reads. -/
structure LsS (w : World) (sb g8 : Nat) (s : St) (a : Option Addr) (n c : Nat) (ra : Option Addr) (rn rc : Nat) (k : Hd) (va : Option Addr) (vc : Nat) (L : List (List Nat)) (wz : World) : Prop where
  b1 : Blk wz sb 27 (liC s a n c ra rn rc)
  b8 : Blk wz g8 36 (hdC k)
  ds : DS wz va L.length vc L
  bel : Below w.heap.size w wz
theorem LsS.below {w : World} {sb g8 : Nat} {s : St} {a : Option Addr} {n c : Nat} {ra : Option Addr} {rn rc : Nat} {k : Hd} {va : Option Addr} {vc : Nat} {L : List (List Nat)} {wz wq : World} (h : LsS w sb g8 s a n c ra rn rc k va vc L wz) (hb : Below wz.heap.size wz wq) : LsS w sb g8 s a n c ra rn rc k va vc L wq :=
  ⟨h.b1.below hb h.b1.lt, h.b8.below hb h.b8.lt, h.ds.below hb, h.bel.trans (hb.mono h.bel.size)⟩

set_option maxRecDepth 100000 in
set_option maxHeartbeats 20000000 in
theorem lsigned_walk (s : St) (a : Option Addr) (n c : Nat) (ra : Option Addr) (rn rc : Nat) (rs : List Rul) (dev : Int) (_id : I64 dev) (f : Int) (hf : I64 f) (w : World) (HT : Tabs w) (S0 : SVr w a n c s) (R0 : RuS w ra rn rc rs) :
    Calls Tryz.prog 9 #[.agg (liC s a n c ra rn rc).toArray, .int .i64 dev, .int .i64 f] w (RetBo true w) := by
  have hrl := R0.len
  have hrm : rn ≤ 9223372036854775807 := Nat.le_trans (RS.le R0) (RS.max R0)
  have HT' := Lib.hid HT; have S0' := Lib.hid S0; have R0' := Lib.hid R0
  clear HT S0 R0
  obtain ⟨sb, hsb⟩ : ∃ sb, Hid (w.heap.size = sb) := ⟨_, rfl⟩
  obtain ⟨W1, hW1⟩ : ∃ W1, Hid (w.alloc (.cells #[.int .i64 s.id, .int .i64 s.priv, .slice a n c, .slice ra rn rc] 27) = W1) := ⟨_, rfl⟩
  have hB1 : Hid (Blk W1 sb 27 (liC s a n c ra rn rc)) := by rw [← hW1.out, ← hsb.out]; exact Blk.new w _ (liC s a n c ra rn rc)
  have hbw : Hid (Below w.heap.size w W1) := by rw [← hW1.out]; exact (Below.refl _ w).alloc (Nat.le_refl _) _
  obtain ⟨X, hX⟩ : ∃ X, Hid (X = RetBo true w) := ⟨_, rfl⟩
  have hfin : Hid (∀ W, Below w.heap.size w W → X (.returned (.bool true)) W) := fun W hb => by rw [hX.out]; exact ⟨rfl, hb⟩
  rw [← hX.out]
  clear hX
  obtain ⟨fq, hfq⟩ : ∃ q, Hid (fewL s rn = q) := ⟨_, rfl⟩
  have hfw := Lib.hid (fun W (hW : Below w.heap.size w W) => few31_any a n c s ra rn rc W (S0'.out.below hW) hrm)
  rw [hfq.out] at hfw
  unfold liC at *
  go_enter Tryz.func9, Tryz.ntmps9
  go_upto_region 1 with fail
  rw [hsb.out]
  generalize hWq : w.alloc _ = Wq
  obtain rfl : W1 = Wq := by rw [← hWq]; exact hW1.out.symm
  clear hWq hW1
  go_wp2_with fail
  refine (sane31_any _ (HT'.out.below hbw.out)).mono ?_
  rintro e w2 ⟨rfl, hst⟩
  replace hB1 := Lib.hid (hB1.out.below hst hB1.out.lt)
  replace hbw := Lib.hid (hbw.out.trans (hst.mono hbw.out.size))
  clear hst
  have l0 := hB1.out.at_ (i := 0) rfl
  have l1 := hB1.out.at_ (i := 1) rfl
  have l2 := hB1.out.at_ (i := 2) rfl
  have l3 := hB1.out.at_ (i := 3) rfl
  go_wp2_with fail
  refine (hfw.out _ hbw.out).mono ?_
  rintro e w3 ⟨rfl, hst⟩
  replace hB1 := Lib.hid (hB1.out.below hst hB1.out.lt)
  replace hbw := Lib.hid (hbw.out.trans (hst.mono hbw.out.size))
  clear hst l0 l1 l2 l3 hfw
  cases fq with
  | false =>
    have hf := Lib.hid (hfin.out _ hbw.out)
    clear hB1 hbw hfq
    go_wp2_with fail
    exact hf.out
  | true =>
    have hfew : few30s s = true ∧ rn ≤ 70 := by
      have := hfq.out
      unfold fewL at this
      simpa using this
    have hsv : Hid (∀ W, Below w.heap.size w W → SV (fun _ => True) W a n c s) := fun W h => (S0'.out.below h).sv hfew.1
    have hrs : Hid (∀ W, Below w.heap.size w W → RuS W ra rn rc rs) := fun W h => R0'.out.below h
    have hbd : Hid (∀ f, BdL 0 (Sto.ents s f)) := fun f => few_bd hfew.1 f
    have hrn : rn ≤ 70 := hfew.2
    clear hfq hfew S0' R0'
    obtain ⟨k, okk, hk, hsg0⟩ := show_hk (rs := rs) (dev := dev) (hbd.out f)
    have hsg := Lib.hid hsg0
    clear hsg0
    have her := Lib.hid (@Sto.showL_err s rs dev f)
    have hle := Sto.showL_len (rs := rs) (dev := dev) (hbd.out f)
    have hpriv := Lib.hid (fun (h : (Sto.showL s rs dev f).2 = 0) => (Sto.chk_priv (Sto.open_fo (Sto.fetch_open (Sto.shownL_ok (Sto.showL_ok h).1).2.2.1)).1).1)
    have hok' := Lib.hid okk
    have hsh := Lib.hid (shk_any hk hf (HT'.out.below hbw.out) (hsv.out _ hbw.out) (hrs.out _ hbw.out) (hbd.out f))
    clear hk okk
    generalize hp : Sto.showL s rs dev f = p at *
    obtain ⟨L, q⟩ := p
    simp only at hsg her hle hpriv hsh
    clear hp
    have l0 := hB1.out.at_ (i := 0) rfl
    have l1 := hB1.out.at_ (i := 1) rfl
    have l2 := hB1.out.at_ (i := 2) rfl
    have l3 := hB1.out.at_ (i := 3) rfl
    go_wp2_with fail
    refine hsh.out.mono ?_
    rintro e w4 ⟨va, vc, rfl, hE, hst⟩
    replace hB1 := Lib.hid (hB1.out.below hst hB1.out.lt)
    replace hbw := Lib.hid (hbw.out.trans (hst.mono hbw.out.size))
    have hEs : Hid (ES (fun _ => True) w4 va L.length vc L) := hE.imp fun _ _ _ => trivial
    clear hst hE l0 l1 l2 l3 hsh
    obtain ⟨v4, hP⟩ : ∃ V, Hid (PutR 36 (w4.alloc (.cells (zeroHd : List Value).toArray 36)) V w4.heap.size 36 (hdC k)) := put_row (Blk.new w4 36 (zeroHd)) (by rw [hdC_len hok'.out, zeroHd_len]) (by rw [hdC_len hok'.out]; exact size37) ((hdC_r hok'.out).one)
    have hst := below_grown ((Below.refl _ w4).alloc (Nat.le_refl _) _) hP.out.grown (by simp) (Nat.le_refl _)
    replace hB1 := Lib.hid (hB1.out.below hst hB1.out.lt)
    replace hEs := Lib.hid (hEs.out.below hst)
    replace hbw := Lib.hid (hbw.out.trans (hst.mono hbw.out.size))
    clear hst
    have hB8 := Lib.hid hP.out.blk
    obtain ⟨g8, hg8⟩ : ∃ g, Hid (w4.heap.size = g) := ⟨_, rfl⟩
    by_cases hq : q = 0
    · subst hq
      have hsk := Lib.hid (hsg.out rfl)
      have hkp := hpriv.out rfl
      obtain ⟨p, hp⟩ : ∃ p, Hid (pubB 4 s.priv = p) := ⟨_, rfl⟩
      have hpb : I64 p := by rw [← hp.out]; have := pubB_bd 4 s.priv; exact ⟨by omega, by omega⟩
      have hpu : Hid (∀ W, Calls Tryz.prog 13 #[.int .i64 s.priv] W (RetII (p, 0) W)) := fun W => by
        have := Public_any s.priv W
        rwa [publicK_t hkp, hp.out] at this
      rw [hp.out] at hsk
      clear hsg hkp hp her hpriv
      have l1 := hB1.out.at_ (i := 1) rfl
      go_wp2_with (first
        | (refine wpList_store_mid (by rfl) 36 (.tmp 8) (.tmp 25) (by rfl) w4.heap.size 0 (hdC k).toArray (by rfl) (by rfl) hP.out.there hP.out.info (by simpa using hP.out.one) ?_
           generalize hWq : World.setCells _ _ _ _ = Wa
           obtain rfl : v4 = Wa := by rw [← hWq]; exact hP.out.eq
           clear hWq))
      clear hP
      refine (hpu.out _).mono ?_
      rintro e w5 ⟨rfl, hst⟩
      replace hB1 := Lib.hid (hB1.out.below hst hB1.out.lt)
      replace hEs := Lib.hid (hEs.out.below hst)
      replace hB8 := Lib.hid (hB8.out.below hst hB8.out.lt)
      replace hbw := Lib.hid (hbw.out.trans (hst.mono hbw.out.size))
      clear hst l1 hpu
      rw [hg8.out] at hB8
      have hal : Below w5.heap.size w5 (w5.alloc (.cells #[] 32)) := (Below.refl _ w5).alloc (Nat.le_refl _) _
      have hO0 := Lib.hid (ownD_mt w5)
      have hb0 := Lib.hid hal
      clear hal
      go_wp2_with fail
      rw [hg8.out]
      go_loopw [12, 13] (fun sl i wr => ∃ (k : Nat) (sv : Value), k ≤ L.length ∧ i = .int .i64 k ∧ sl = sv ∧ Hid (OwnD w5 wr sv ((L.take k).map (·.dig))) ∧ Hid (Below w5.heap.size w5 wr)) (fun _ i _ => L.length - (intOf i).toNat)
      case atStart => exact ⟨0, _, Nat.zero_le _, rfl, rfl, hO0, hb0⟩
      case round =>
        obtain ⟨j, sv, hj, rfl, rfl, hO, hbr⟩ := hrel
        clear hO0 hb0
        by_cases hlt : j < L.length
        case pos =>
          obtain ⟨x, hx⟩ : ∃ x, L[j]? = some x := ⟨_, List.getElem?_eq_getElem hlt⟩
          obtain ⟨b, off, r, rfl, hbl, _, ⟨ho, ea, en, ec, rfl, _⟩, hrl', hrg⟩ := (hEs.out.below hbr.out).rs.get hx
          have hdr := Lib.hid (EntR.of hrg ho.dig).dig
          have hdi : Hid ((Tryz.prog.info? 32).map (·.size) = some (bv x.dig).length) := by show _ = _; rw [bv_length, ho.dig]; exact size35
          have hdl : ((L.take j).map (·.dig)).length + 1 ≤ 1000000000000 := by rw [List.length_map, List.length_take]; omega
          obtain ⟨v', W7, hr7, hO7, hb7⟩ := append_dg (d := x.dig) hO.out hbr.out ⟨ho.dig, ho.lt⟩ hdl
          rw [show (L.take j).map (·.dig) ++ [x.dig] = (L.take (j + 1)).map (·.dig) from by rw [List.take_succ_eq_append_getElem (List.getElem?_eq_some_iff.1 hx).1, List.map_append, (List.getElem?_eq_some_iff.1 hx).2]; rfl] at hO7
          have hr7' := Lib.hid hr7; have hO7' := Lib.hid hO7; have hb7' := Lib.hid hb7
          have hds := dig_slice1 ho.dig wr
          have k0 : (0 : Int) ≤ (j : Int) := by omega
          have k1 : (j : Int) < (L.length : Int) := by omega
          have kw : IntKind.i64.wrap ((j : Int) + 1) = (j : Int) + 1 := IntWalk.i64_in _ (by omega)
          clear hr7 hO7 hb7 hO hbr hrg hrl' ho hdl hx
          go_wp2_with (first
            | (refine wpList_load_g (by rfl) 32 _ (by rfl) b (off + j * 35 + 1) (by rfl) (bv x.dig) _ hdr.out Tryz.underlying32 (by rfl) hdi.out ?_)
            | (refine wpList_buildSlice_run (by rfl) 42 1 _ rfl #[(0, .agg (bv x.dig).toArray)] (by simp only [List.map_toArray, List.map_cons, List.map_nil]; rfl) hds ?_)
            | (at_builtin; refine Lib.wpList_append_run _ rfl _ _ _ _ rfl _ _ rfl rfl _ _ (hr7'.out _) ?_))
          go_roundw
          case rel => exact ⟨j + 1, v', by omega, by go_num, rfl, hO7', hb7'⟩
          case measure => simp [intOf]; omega
        case neg =>
          obtain rfl : j = L.length := by omega
          rw [List.take_length] at hO
          obtain ⟨da, dc, rfl, hD⟩ := hO.out.ds
          obtain ⟨m, hm⟩ : ∃ m, Hid (L.map (fun e : Ent => e.dig) = m) := ⟨_, rfl⟩
          rw [hm.out] at hD hsk
          have hS0 : LsS w sb g8 s a n c ra rn rc k da dc m wr := ⟨hB1.out.below hbr.out hB1.out.lt, hB8.out.below hbr.out hB8.out.lt, hD, hbw.out.trans (hbr.out.mono hbw.out.size)⟩
          have t1 : (k.st == s.id) = true := by rw [hsk.out.est]; simp
          have t2 : (k.fo == f) = true := by rw [hsk.out.efo]; simp
          have t3 : (k.no == (L.length : Int)) = true := by
            rw [hsk.out.no, ← hm.out, List.length_map]; simp
          have t4 : ∀ W, (Op.equalIn 10000 32 (.agg (bv k.ch).toArray) (.agg (bv (chainD f m)).toArray)).run Tryz.prog W = .ok true W := fun W => by
            have := eq_dig (x := k.ch) (y := chainD f m) hok'.out.ch (chain_len f m) W
            rwa [decide_eq_true hsk.out.ch] at this
          rw [hm.out]
          clear hO
          go_upto_region 14 with fail
          refine wp_region_held_drew (S := fun wz => LsS w sb g8 s a n c ra rn rc k da dc m wz) (by kernel_rfl) (hS0.below (Below.refl _ wr).drew) (fun hHeld => ?_)
          refine wpAnyH_take (i := 0) (oi := { dst := some 54, op := Op.move (Operand.tmp 11), type := 37, pos := "law.go:81", after := #[], guard := none }) (v := ?_) rfl (by kernel_rfl) (by kernel_rfl) (by kernel_rfl) (fun _ _ _ h => h) (Or.inl ⟨by rfl, ?_⟩) hHeld ?_
          rotate_left
          · intro wz hSw
            go_simp
            all_goals (with_reducible rfl)
          try simp only [Act.put, List.setIfInBounds_toArray, List.set_cons_zero, List.set_cons_succ]
          refine wpAnyH_take (i := 1) (oi := { dst := some 55, op := Op.binOp BinOp.eql 37 (Operand.tmp 54) (Operand.const (Value.int IntKind.i64 0)) 37, type := 4, pos := "law.go:81", after := #[{ on := 0, ground := Ground.data }], guard := none }) (v := ?_) rfl (by kernel_rfl) (by kernel_rfl) (by kernel_rfl) (fun _ _ _ h => h) (Or.inl ⟨by rfl, ?_⟩) hHeld ?_
          rotate_left
          · intro wz hSw
            go_simp
            all_goals (with_reducible rfl)
          try simp only [Act.put, List.setIfInBounds_toArray, List.set_cons_zero, List.set_cons_succ]
          refine wpAnyH_take (i := 2) (oi := { dst := some 56, op := Op.move (Operand.tmp 55), type := 4, pos := "law.go:81", after := #[{ on := 1, ground := Ground.data }], guard := none }) (v := ?_) rfl (by kernel_rfl) (by kernel_rfl) (by kernel_rfl) (fun _ _ _ h => h) (Or.inl ⟨by rfl, ?_⟩) hHeld ?_
          rotate_left
          · intro wz hSw
            go_simp
            all_goals (with_reducible rfl)
          try simp only [Act.put, List.setIfInBounds_toArray, List.set_cons_zero, List.set_cons_succ]
          refine wpAnyH_take (i := 3) (oi := { dst := some 57, op := Op.move (Operand.tmp 10), type := 3, pos := "law.go:81", after := #[{ on := 2, ground := Ground.guard }], guard := some (2, true) }) (v := ?_) rfl (by kernel_rfl) (by kernel_rfl) (by kernel_rfl) (fun _ _ _ h => h) (Or.inl ⟨by rfl, ?_⟩) hHeld ?_
          rotate_left
          · intro wz hSw
            go_simp
            all_goals (with_reducible rfl)
          try simp only [Act.put, List.setIfInBounds_toArray, List.set_cons_zero, List.set_cons_succ]
          refine wpAnyH_take (i := 4) (oi := { dst := some 58, op := Op.load 36 (Operand.tmp 8), type := 36, pos := "law.go:81", after := #[{ on := 2, ground := Ground.guard }], guard := some (2, true) }) rfl (by kernel_rfl) (by kernel_rfl) (by kernel_rfl) (fun _ _ _ h => h) (yieldsIf_load_mid (by rfl) _ _ rfl g8 0 rfl (hdC k) _ (fun wz h => h.b8.range) Tryz.underlying36 rfl (by rw [hdC_len hok'.out]; exact size37)) hHeld ?_
          try simp only [Act.put, List.setIfInBounds_toArray, List.set_cons_zero, List.set_cons_succ]
          refine wpAnyH_ready (rs := [5]) (by kernel_rfl) (by simp) ?_
          refine AllReadyH.cons (o := { dst := some 59, op := Op.call { callee := Callee.value (Operand.func 35), args := #[Operand.tmp 57, Operand.tmp 58], argTypes := #[3, 36] }, type := 4, pos := "law.go:81", after := #[{ on := 3, ground := Ground.data }, { on := 4, ground := Ground.data }, { on := 2, ground := Ground.chain }, { on := 2, ground := Ground.guard }], guard := some (2, true) }) rfl (fun K hK => ?_) AllReadyH.nil
          rw [if_pos (by rfl)]
          show Oper.wp _ _ _ _ K _
          go_simp
          go_at_call 35
          have hv := verH_any p k hpb hok'.out _ (HT'.out.below hHeld.bel)
          rw [hsk.out.ver] at hv
          refine hv.mono ?_
          rintro e wq ⟨rfl, hbq⟩
          clear hv
          refine hK.out _ _ (hHeld.below hbq) (fun hHeld => ?_)
          clear hbq
          clear hK K
          try simp only [Act.put, List.setIfInBounds_toArray, List.set_cons_zero, List.set_cons_succ]
          refine wpAnyH_take (i := 6) (oi := { dst := some 60, op := Op.pick (Operand.tmp 56) (Operand.tmp 59) (Operand.const (Value.bool false)), type := 4, pos := "law.go:81", after := #[{ on := 2, ground := Ground.data }, { on := 5, ground := Ground.data }], guard := none }) (v := ?_) rfl (by kernel_rfl) (by kernel_rfl) (by kernel_rfl) (fun _ _ _ h => h) (Or.inl ⟨by rfl, ?_⟩) hHeld ?_
          rotate_left
          · intro wz hSw
            go_simp
            all_goals (with_reducible rfl)
          try simp only [Act.put, List.setIfInBounds_toArray, List.set_cons_zero, List.set_cons_succ]
          refine wpAnyH_take (i := 7) (oi := { dst := some 61, op := Op.move (Operand.tmp 60), type := 4, pos := "law.go:81", after := #[{ on := 6, ground := Ground.data }, { on := 5, ground := Ground.chain }], guard := none }) (v := ?_) rfl (by kernel_rfl) (by kernel_rfl) (by kernel_rfl) (fun _ _ _ h => h) (Or.inl ⟨by rfl, ?_⟩) hHeld ?_
          rotate_left
          · intro wz hSw
            go_simp
            all_goals (with_reducible rfl)
          try simp only [Act.put, List.setIfInBounds_toArray, List.set_cons_zero, List.set_cons_succ]
          refine wpAnyH_take (i := 8) (oi := { dst := some 62, op := Op.fieldAddr 36 (Operand.tmp 8) 0, type := 0, pos := "law.go:81", after := #[{ on := 7, ground := Ground.guard }], guard := some (7, true) }) (v := ?_) rfl (by kernel_rfl) (by kernel_rfl) (by kernel_rfl) (fun _ _ _ h => h) (Or.inl ⟨by rfl, ?_⟩) hHeld ?_
          rotate_left
          · intro wz hSw
            go_simp
            all_goals (with_reducible rfl)
          try simp only [Act.put, List.setIfInBounds_toArray, List.set_cons_zero, List.set_cons_succ]
          refine wpAnyH_take (i := 9) (oi := { dst := some 63, op := Op.load 3 (Operand.tmp 62), type := 3, pos := "law.go:81", after := #[{ on := 8, ground := Ground.data }, { on := 7, ground := Ground.guard }], guard := some (7, true) }) (v := ?_) rfl (by kernel_rfl) (by kernel_rfl) (by kernel_rfl) (fun _ _ _ h => h) (Or.inl ⟨by rfl, ?_⟩) hHeld ?_
          rotate_left
          · intro wz hSw
            have q := hSw.b8.at_ (i := 0) rfl
            go_simp
            all_goals (with_reducible rfl)
          try simp only [Act.put, List.setIfInBounds_toArray, List.set_cons_zero, List.set_cons_succ]
          refine wpAnyH_take (i := 10) (oi := { dst := some 64, op := Op.fieldAddr 27 (Operand.tmp 3) 0, type := 0, pos := "law.go:81", after := #[{ on := 7, ground := Ground.guard }], guard := some (7, true) }) (v := ?_) rfl (by kernel_rfl) (by kernel_rfl) (by kernel_rfl) (fun _ _ _ h => h) (Or.inl ⟨by rfl, ?_⟩) hHeld ?_
          rotate_left
          · intro wz hSw
            go_simp
            all_goals (with_reducible rfl)
          try simp only [Act.put, List.setIfInBounds_toArray, List.set_cons_zero, List.set_cons_succ]
          refine wpAnyH_take (i := 11) (oi := { dst := some 65, op := Op.fieldAddr 24 (Operand.tmp 64) 0, type := 0, pos := "law.go:81", after := #[{ on := 10, ground := Ground.data }, { on := 7, ground := Ground.guard }], guard := some (7, true) }) (v := ?_) rfl (by kernel_rfl) (by kernel_rfl) (by kernel_rfl) (fun _ _ _ h => h) (Or.inl ⟨by rfl, ?_⟩) hHeld ?_
          rotate_left
          · intro wz hSw
            go_simp
            all_goals (with_reducible rfl)
          try simp only [Act.put, List.setIfInBounds_toArray, List.set_cons_zero, List.set_cons_succ]
          refine wpAnyH_take (i := 12) (oi := { dst := some 66, op := Op.load 3 (Operand.tmp 65), type := 3, pos := "law.go:81", after := #[{ on := 11, ground := Ground.data }, { on := 7, ground := Ground.guard }], guard := some (7, true) }) (v := ?_) rfl (by kernel_rfl) (by kernel_rfl) (by kernel_rfl) (fun _ _ _ h => h) (Or.inl ⟨by rfl, ?_⟩) hHeld ?_
          rotate_left
          · intro wz hSw
            have q := hSw.b1.at_ (i := 0) rfl
            go_simp
            all_goals (with_reducible rfl)
          try simp only [Act.put, List.setIfInBounds_toArray, List.set_cons_zero, List.set_cons_succ]
          refine wpAnyH_take (i := 13) (oi := { dst := some 67, op := Op.binOp BinOp.eql 3 (Operand.tmp 63) (Operand.tmp 66) 3, type := 4, pos := "law.go:81", after := #[{ on := 9, ground := Ground.data }, { on := 12, ground := Ground.data }, { on := 7, ground := Ground.guard }], guard := some (7, true) }) (v := ?_) rfl (by kernel_rfl) (by kernel_rfl) (by kernel_rfl) (fun _ _ _ h => h) (Or.inl ⟨by rfl, ?_⟩) hHeld ?_
          rotate_left
          · intro wz hSw
            go_simp
            all_goals (with_reducible rfl)
          try simp only [Act.put, List.setIfInBounds_toArray, List.set_cons_zero, List.set_cons_succ]
          refine wpAnyH_take (i := 14) (oi := { dst := some 68, op := Op.pick (Operand.tmp 61) (Operand.tmp 67) (Operand.const (Value.bool false)), type := 4, pos := "law.go:81", after := #[{ on := 7, ground := Ground.data }, { on := 13, ground := Ground.data }], guard := none }) (v := ?_) rfl (by kernel_rfl) (by kernel_rfl) (by kernel_rfl) (fun _ _ _ h => h) (Or.inl ⟨by rfl, ?_⟩) hHeld ?_
          rotate_left
          · intro wz hSw
            go_simp
            all_goals (with_reducible rfl)
          try simp only [Act.put, List.setIfInBounds_toArray, List.set_cons_zero, List.set_cons_succ]
          refine wpAnyH_take (i := 15) (oi := { dst := some 69, op := Op.move (Operand.tmp 68), type := 4, pos := "law.go:81", after := #[{ on := 14, ground := Ground.data }, { on := 7, ground := Ground.chain }], guard := none }) (v := ?_) rfl (by kernel_rfl) (by kernel_rfl) (by kernel_rfl) (fun _ _ _ h => h) (Or.inl ⟨by rfl, ?_⟩) hHeld ?_
          rotate_left
          · intro wz hSw
            go_simp
            all_goals (with_reducible rfl)
          try simp only [Act.put, List.setIfInBounds_toArray, List.set_cons_zero, List.set_cons_succ]
          refine wpAnyH_take (i := 16) (oi := { dst := some 70, op := Op.fieldAddr 36 (Operand.tmp 8) 1, type := 0, pos := "law.go:81", after := #[{ on := 15, ground := Ground.guard }], guard := some (15, true) }) (v := ?_) rfl (by kernel_rfl) (by kernel_rfl) (by kernel_rfl) (fun _ _ _ h => h) (Or.inl ⟨by rfl, ?_⟩) hHeld ?_
          rotate_left
          · intro wz hSw
            go_simp
            all_goals (with_reducible rfl)
          try simp only [Act.put, List.setIfInBounds_toArray, List.set_cons_zero, List.set_cons_succ]
          refine wpAnyH_take (i := 17) (oi := { dst := some 71, op := Op.load 3 (Operand.tmp 70), type := 3, pos := "law.go:81", after := #[{ on := 16, ground := Ground.data }, { on := 15, ground := Ground.guard }], guard := some (15, true) }) (v := ?_) rfl (by kernel_rfl) (by kernel_rfl) (by kernel_rfl) (fun _ _ _ h => h) (Or.inl ⟨by rfl, ?_⟩) hHeld ?_
          rotate_left
          · intro wz hSw
            have q := hSw.b8.at_ (i := 1) rfl
            go_simp
            all_goals (with_reducible rfl)
          try simp only [Act.put, List.setIfInBounds_toArray, List.set_cons_zero, List.set_cons_succ]
          refine wpAnyH_take (i := 18) (oi := { dst := some 72, op := Op.move (Operand.tmp 2), type := 3, pos := "law.go:81", after := #[{ on := 15, ground := Ground.guard }], guard := some (15, true) }) (v := ?_) rfl (by kernel_rfl) (by kernel_rfl) (by kernel_rfl) (fun _ _ _ h => h) (Or.inl ⟨by rfl, ?_⟩) hHeld ?_
          rotate_left
          · intro wz hSw
            go_simp
            all_goals (with_reducible rfl)
          try simp only [Act.put, List.setIfInBounds_toArray, List.set_cons_zero, List.set_cons_succ]
          refine wpAnyH_take (i := 19) (oi := { dst := some 73, op := Op.binOp BinOp.eql 3 (Operand.tmp 71) (Operand.tmp 72) 3, type := 4, pos := "law.go:81", after := #[{ on := 17, ground := Ground.data }, { on := 18, ground := Ground.data }, { on := 15, ground := Ground.guard }], guard := some (15, true) }) (v := ?_) rfl (by kernel_rfl) (by kernel_rfl) (by kernel_rfl) (fun _ _ _ h => h) (Or.inl ⟨by rfl, ?_⟩) hHeld ?_
          rotate_left
          · intro wz hSw
            go_simp
            all_goals (with_reducible rfl)
          try simp only [Act.put, List.setIfInBounds_toArray, List.set_cons_zero, List.set_cons_succ]
          refine wpAnyH_take (i := 20) (oi := { dst := some 74, op := Op.pick (Operand.tmp 69) (Operand.tmp 73) (Operand.const (Value.bool false)), type := 4, pos := "law.go:81", after := #[{ on := 15, ground := Ground.data }, { on := 19, ground := Ground.data }], guard := none }) (v := ?_) rfl (by kernel_rfl) (by kernel_rfl) (by kernel_rfl) (fun _ _ _ h => h) (Or.inl ⟨by rfl, ?_⟩) hHeld ?_
          rotate_left
          · intro wz hSw
            go_simp
            all_goals (with_reducible rfl)
          try simp only [Act.put, List.setIfInBounds_toArray, List.set_cons_zero, List.set_cons_succ]
          refine wpAnyH_take (i := 21) (oi := { dst := some 75, op := Op.move (Operand.tmp 74), type := 4, pos := "law.go:81", after := #[{ on := 20, ground := Ground.data }, { on := 15, ground := Ground.chain }], guard := none }) (v := ?_) rfl (by kernel_rfl) (by kernel_rfl) (by kernel_rfl) (fun _ _ _ h => h) (Or.inl ⟨by rfl, ?_⟩) hHeld ?_
          rotate_left
          · intro wz hSw
            go_simp
            all_goals (with_reducible rfl)
          try simp only [Act.put, List.setIfInBounds_toArray, List.set_cons_zero, List.set_cons_succ]
          refine wpAnyH_take (i := 22) (oi := { dst := some 76, op := Op.fieldAddr 36 (Operand.tmp 8) 2, type := 0, pos := "law.go:81", after := #[{ on := 21, ground := Ground.guard }], guard := some (21, true) }) (v := ?_) rfl (by kernel_rfl) (by kernel_rfl) (by kernel_rfl) (fun _ _ _ h => h) (Or.inl ⟨by rfl, ?_⟩) hHeld ?_
          rotate_left
          · intro wz hSw
            go_simp
            all_goals (with_reducible rfl)
          try simp only [Act.put, List.setIfInBounds_toArray, List.set_cons_zero, List.set_cons_succ]
          refine wpAnyH_take (i := 23) (oi := { dst := some 77, op := Op.load 3 (Operand.tmp 76), type := 3, pos := "law.go:81", after := #[{ on := 22, ground := Ground.data }, { on := 21, ground := Ground.guard }], guard := some (21, true) }) (v := ?_) rfl (by kernel_rfl) (by kernel_rfl) (by kernel_rfl) (fun _ _ _ h => h) (Or.inl ⟨by rfl, ?_⟩) hHeld ?_
          rotate_left
          · intro wz hSw
            have q := hSw.b8.at_ (i := 2) rfl
            go_simp
            all_goals (with_reducible rfl)
          try simp only [Act.put, List.setIfInBounds_toArray, List.set_cons_zero, List.set_cons_succ]
          refine wpAnyH_take (i := 24) (oi := { dst := some 78, op := Op.move (Operand.tmp 7), type := 30, pos := "law.go:81", after := #[{ on := 21, ground := Ground.guard }], guard := some (21, true) }) (v := ?_) rfl (by kernel_rfl) (by kernel_rfl) (by kernel_rfl) (fun _ _ _ h => h) (Or.inl ⟨by rfl, ?_⟩) hHeld ?_
          rotate_left
          · intro wz hSw
            go_simp
            all_goals (with_reducible rfl)
          try simp only [Act.put, List.setIfInBounds_toArray, List.set_cons_zero, List.set_cons_succ]
          refine wpAnyH_take (i := 25) (oi := { dst := some 79, op := Op.call { callee := Callee.builtin Builtin.len, args := #[Operand.tmp 78], argTypes := #[30] }, type := 3, pos := "law.go:81", after := #[{ on := 24, ground := Ground.data }, { on := 21, ground := Ground.guard }], guard := some (21, true) }) (v := ?_) rfl (by kernel_rfl) (by kernel_rfl) (by kernel_rfl) (fun _ _ _ h => h) (Or.inl ⟨by rfl, ?_⟩) hHeld ?_
          rotate_left
          · intro wz hSw
            go_simp
            all_goals (with_reducible rfl)
          try simp only [Act.put, List.setIfInBounds_toArray, List.set_cons_zero, List.set_cons_succ]
          refine wpAnyH_take (i := 26) (oi := { dst := some 80, op := Op.binOp BinOp.eql 3 (Operand.tmp 77) (Operand.tmp 79) 3, type := 4, pos := "law.go:81", after := #[{ on := 23, ground := Ground.data }, { on := 25, ground := Ground.data }, { on := 21, ground := Ground.guard }], guard := some (21, true) }) (v := ?_) rfl (by kernel_rfl) (by kernel_rfl) (by kernel_rfl) (fun _ _ _ h => h) (Or.inl ⟨by rfl, ?_⟩) hHeld ?_
          rotate_left
          · intro wz hSw
            go_simp
            all_goals (with_reducible rfl)
          try simp only [Act.put, List.setIfInBounds_toArray, List.set_cons_zero, List.set_cons_succ]
          refine wpAnyH_take (i := 27) (oi := { dst := some 81, op := Op.pick (Operand.tmp 75) (Operand.tmp 80) (Operand.const (Value.bool false)), type := 4, pos := "law.go:81", after := #[{ on := 21, ground := Ground.data }, { on := 26, ground := Ground.data }], guard := none }) (v := ?_) rfl (by kernel_rfl) (by kernel_rfl) (by kernel_rfl) (fun _ _ _ h => h) (Or.inl ⟨by rfl, ?_⟩) hHeld ?_
          rotate_left
          · intro wz hSw
            go_simp
            all_goals (with_reducible rfl)
          try simp only [Act.put, List.setIfInBounds_toArray, List.set_cons_zero, List.set_cons_succ]
          refine wpAnyH_take (i := 28) (oi := { dst := some 82, op := Op.move (Operand.tmp 81), type := 4, pos := "law.go:81", after := #[{ on := 27, ground := Ground.data }, { on := 21, ground := Ground.chain }], guard := none }) (v := ?_) rfl (by kernel_rfl) (by kernel_rfl) (by kernel_rfl) (fun _ _ _ h => h) (Or.inl ⟨by rfl, ?_⟩) hHeld ?_
          rotate_left
          · intro wz hSw
            go_simp
            all_goals (with_reducible rfl)
          try simp only [Act.put, List.setIfInBounds_toArray, List.set_cons_zero, List.set_cons_succ]
          refine wpAnyH_take (i := 29) (oi := { dst := some 83, op := Op.fieldAddr 36 (Operand.tmp 8) 3, type := 0, pos := "law.go:81", after := #[{ on := 28, ground := Ground.guard }], guard := some (28, true) }) (v := ?_) rfl (by kernel_rfl) (by kernel_rfl) (by kernel_rfl) (fun _ _ _ h => h) (Or.inl ⟨by rfl, ?_⟩) hHeld ?_
          rotate_left
          · intro wz hSw
            go_simp
            all_goals (with_reducible rfl)
          try simp only [Act.put, List.setIfInBounds_toArray, List.set_cons_zero, List.set_cons_succ]
          refine wpAnyH_take (i := 30) (oi := { dst := some 84, op := Op.load 32 (Operand.tmp 83), type := 32, pos := "law.go:81", after := #[{ on := 29, ground := Ground.data }, { on := 28, ground := Ground.guard }], guard := some (28, true) }) rfl (by kernel_rfl) (by kernel_rfl) (by kernel_rfl) (fun _ _ _ h => h) (yieldsIf_load_mid (by rfl) _ _ rfl g8 3 rfl (bv k.ch) _ (fun wz h => headR_ch (hdC_r hok'.out) h.b8) Tryz.underlying32 rfl (by rw [bv_length, hok'.out.ch.1]; exact size35)) hHeld ?_
          try simp only [Act.put, List.setIfInBounds_toArray, List.set_cons_zero, List.set_cons_succ]
          refine wpAnyH_take (i := 31) (oi := { dst := some 85, op := Op.move (Operand.tmp 2), type := 3, pos := "law.go:81", after := #[{ on := 28, ground := Ground.guard }], guard := some (28, true) }) (v := ?_) rfl (by kernel_rfl) (by kernel_rfl) (by kernel_rfl) (fun _ _ _ h => h) (Or.inl ⟨by rfl, ?_⟩) hHeld ?_
          rotate_left
          · intro wz hSw
            go_simp
            all_goals (with_reducible rfl)
          try simp only [Act.put, List.setIfInBounds_toArray, List.set_cons_zero, List.set_cons_succ]
          refine wpAnyH_take (i := 32) (oi := { dst := some 86, op := Op.move (Operand.tmp 12), type := 42, pos := "law.go:81", after := #[{ on := 28, ground := Ground.guard }], guard := some (28, true) }) (v := ?_) rfl (by kernel_rfl) (by kernel_rfl) (by kernel_rfl) (fun _ _ _ h => h) (Or.inl ⟨by rfl, ?_⟩) hHeld ?_
          rotate_left
          · intro wz hSw
            go_simp
            all_goals (with_reducible rfl)
          try simp only [Act.put, List.setIfInBounds_toArray, List.set_cons_zero, List.set_cons_succ]
          refine wpAnyH_ready (rs := [33]) (by kernel_rfl) (by simp) ?_
          refine AllReadyH.cons (o := { dst := some 87, op := Op.call { callee := Callee.value (Operand.func 36), args := #[Operand.tmp 85, Operand.tmp 86], argTypes := #[3, 42] }, type := 32, pos := "law.go:81", after := #[{ on := 31, ground := Ground.data }, { on := 32, ground := Ground.data }, { on := 28, ground := Ground.chain }, { on := 28, ground := Ground.guard }], guard := some (28, true) }) rfl (fun K hK => ?_) AllReadyH.nil
          rw [if_pos (by rfl)]
          show Oper.wp _ _ _ _ K _
          go_simp
          go_at_call 36
          refine (storeChain_any f hf da m.length dc m _ (HT'.out.below hHeld.bel) hHeld.ds).mono ?_
          rintro e wq ⟨rfl, hbq⟩
          refine hK.out _ _ (hHeld.below hbq) (fun hHeld => ?_)
          clear hbq
          clear hK K
          try simp only [Act.put, List.setIfInBounds_toArray, List.set_cons_zero, List.set_cons_succ]
          refine wpAnyH_take (i := 34) (oi := { dst := some 88, op := Op.binOp BinOp.eql 32 (Operand.tmp 84) (Operand.tmp 87) 32, type := 4, pos := "law.go:81", after := #[{ on := 30, ground := Ground.data }, { on := 33, ground := Ground.data }, { on := 28, ground := Ground.guard }], guard := some (28, true) }) (v := ?_) rfl (by kernel_rfl) (by kernel_rfl) (by kernel_rfl) (fun _ _ _ h => h) (Or.inl ⟨by rfl, ?_⟩) hHeld ?_
          rotate_left
          · intro wz hSw
            go_simp
            all_goals (with_reducible rfl)
          try simp only [Act.put, List.setIfInBounds_toArray, List.set_cons_zero, List.set_cons_succ]
          refine wpAnyH_take (i := 35) (oi := { dst := some 89, op := Op.pick (Operand.tmp 82) (Operand.tmp 88) (Operand.const (Value.bool false)), type := 4, pos := "law.go:81", after := #[{ on := 28, ground := Ground.data }, { on := 34, ground := Ground.data }], guard := none }) (v := ?_) rfl (by kernel_rfl) (by kernel_rfl) (by kernel_rfl) (fun _ _ _ h => h) (Or.inl ⟨by rfl, ?_⟩) hHeld ?_
          rotate_left
          · intro wz hSw
            go_simp
            all_goals (with_reducible rfl)
          try simp only [Act.put, List.setIfInBounds_toArray, List.set_cons_zero, List.set_cons_succ]
          refine wpAnyH_take (i := 36) (oi := { dst := some 6, op := Op.assign (Operand.tmp 89), type := 4, pos := "law.go:81", after := #[{ on := 35, ground := Ground.data }, { on := 33, ground := Ground.chain }, { on := 0, ground := Ground.phase }, { on := 1, ground := Ground.phase }, { on := 2, ground := Ground.phase }, { on := 3, ground := Ground.phase }, { on := 4, ground := Ground.phase }, { on := 5, ground := Ground.phase }, { on := 6, ground := Ground.phase }, { on := 7, ground := Ground.phase }, { on := 8, ground := Ground.phase }, { on := 9, ground := Ground.phase }, { on := 10, ground := Ground.phase }, { on := 11, ground := Ground.phase }, { on := 12, ground := Ground.phase }, { on := 13, ground := Ground.phase }, { on := 14, ground := Ground.phase }, { on := 15, ground := Ground.phase }, { on := 16, ground := Ground.phase }, { on := 17, ground := Ground.phase }, { on := 18, ground := Ground.phase }, { on := 19, ground := Ground.phase }, { on := 20, ground := Ground.phase }, { on := 21, ground := Ground.phase }, { on := 22, ground := Ground.phase }, { on := 23, ground := Ground.phase }, { on := 24, ground := Ground.phase }, { on := 25, ground := Ground.phase }, { on := 26, ground := Ground.phase }, { on := 27, ground := Ground.phase }, { on := 28, ground := Ground.phase }, { on := 29, ground := Ground.phase }, { on := 30, ground := Ground.phase }, { on := 31, ground := Ground.phase }, { on := 32, ground := Ground.phase }, { on := 33, ground := Ground.phase }, { on := 34, ground := Ground.phase }, { on := 35, ground := Ground.phase }], guard := none }) (v := ?_) rfl (by kernel_rfl) (by kernel_rfl) (by kernel_rfl) (fun _ _ _ h => h) (Or.inl ⟨by rfl, ?_⟩) hHeld ?_
          rotate_left
          · intro wz hSw
            go_simp
            all_goals (with_reducible rfl)
          try simp only [Act.put, List.setIfInBounds_toArray, List.set_cons_zero, List.set_cons_succ]
          refine wpAnyH_done (by kernel_rfl) ?_ _
          go_wp2_with fail
          exact hfin.out _ hHeld.bel
    · have hL := her.out hq
      subst hL
      have hf0 := Lib.hid (hfin.out _ hbw.out)
      have hqn : (q != 0) = true := by simpa using hq
      clear hsg hpriv her
      go_wp2_with (first
        | (refine wpList_store_mid (by rfl) 36 (.tmp 8) (.tmp 25) (by rfl) w4.heap.size 0 (hdC k).toArray (by rfl) (by rfl) hP.out.there hP.out.info (by simpa using hP.out.one) ?_
           generalize hWq : World.setCells _ _ _ _ = Wa
           obtain rfl : v4 = Wa := by rw [← hWq]; exact hP.out.eq
           clear hWq))
      exact hf0.out
end Go.Proofs.YtiionehcmoginaaGreatDoor
namespace Go.Proofs.YtiionehcmoginaaGreatDoor.lawLSigned
open Go.ChangeShapes Go.WideShapes Go.ChangeAt Go.RowKit Go.Mem
open Go.Proofs.YtiionehcmoginaaGreatDoor

set_option maxRecDepth 100000 in
theorem lifted (os : Os) (started : os.Started) (H : Type) (enc : TypeId × Value → H) :
    ReturnsInHanded {} Tryz.checked os 9 .any (fun w args => (Rows.liarSignedSpec.pre enc Tryz.prog Tryz.f9 [] false w args ∧ laidMetH Tryz.prog laid2 w) ∧ sizedMet enc Tryz.prog Tryz.f9 (OpenSpec.ofChange Rows.liarSignedSpec) false w args)
      (Rows.liarSignedSpec.post enc Tryz.prog Tryz.f9 false true false false) := by
  refine returnsInHanded_of_change_and (C := Tryz.checked) (X := fun w _ => laidMetH Tryz.prog laid2 w) (fun _ _ _ hh h => h.of_heap hh) own started (by kernel_rfl) Tryz.func9
    (ChangeSpec.witness_shaped (enc := enc) (C := Tryz.checked) (os := os) (X := fun w _ => laidMetH Tryz.prog laid2 w) false (World.doorLaid Tryz.prog 400 os) #[.agg (liC ⟨0, 0, []⟩ none 0 0 none 0 0).toArray, .int .i64 0, .int .i64 0] 8 rfl (World.shaped_of_RefB (by kernel_rfl) (by kernel_rfl)) (by kernel_rfl) (by kernel_rfl) (by kernel_rfl) (door_met os _)) ?_
  intro W base args ds gs before hval0 hW _ hwt hL _
  have hval : ∀ (j : Nat) t v, Tryz.f9.params[j]? = some t → args[j]? = some v → Value.okWide Tryz.prog W .any base t v := hval0
  have hW' := hW
  obtain ⟨p, q, hA0, hV, rfl, hfz, hnd⟩ := hW
  have hA : DataW.TrodAll enc Tryz.prog W 0 (fun _ => true) true Tryz.f9.params.toList args.toList ds p := hA0
  rw [Tryz.params9] at hA hval
  obtain ⟨v0, vs0, d0, ds0, p0, q0, hargs, rfl, rfl, h0, r0⟩ := trodAll_cons hA
  obtain ⟨v1, vs1, d1, ds1, p1, q1, rfl, rfl, rfl, h1, r1⟩ := trodAll_cons r0
  obtain ⟨v2, vs2, d2, ds2, p2, q2, rfl, rfl, rfl, h2, r2⟩ := trodAll_cons r1
  obtain ⟨rfl, rfl, rfl⟩ := trodAll_nil r2
  obtain rfl : args = #[v0, v1, v2] := by cases args; simp_all
  obtain ⟨rfl, rfl⟩ := trodVars_none hV
  have lt0 : ∀ x ∈ p0, x.block < W.heap.size := by obtain ⟨m, hm⟩ := h0; exact DataW.trod_lt m _ _ _ hm
  have lt1 : ∀ x ∈ p1, x.block < W.heap.size := by obtain ⟨m, hm⟩ := h1; exact DataW.trod_lt m _ _ _ hm
  have lt2 : ∀ x ∈ p2, x.block < W.heap.size := by obtain ⟨m, hm⟩ := h2; exact DataW.trod_lt m _ _ _ hm
  have k0' := h0
  have k1' := h1
  have k2' := h2
  obtain ⟨cs0, rfl, _⟩ := okWide_struct Tryz.underlying27 (hval 0 27 v0 rfl rfl)
  obtain ⟨m0, hm0⟩ := h0
  obtain ⟨s0, a0, n0, c0, ra0, rn0, rc0, rs0, e0, S0, R0⟩ := open_liar (cs := cs0.toList) (by simpa [Value.cells] using hm0)
  obtain rfl : cs0 = (liC s0 a0 n0 c0 ra0 rn0 rc0).toArray := by rw [← e0]
  clear hm0 e0
  obtain ⟨x1, rfl⟩ := okWide_int Tryz.underlying3 (hval 1 3 v1 rfl rfl)
  obtain ⟨m1, hm1⟩ := h1
  obtain ⟨x1', e1, i1⟩ := open_int1 (cs := [.int .i64 x1]) (by simpa [Value.cells] using hm1)
  obtain rfl : x1 = x1' := by simpa using e1
  clear hm1 e1
  obtain ⟨x2, rfl⟩ := okWide_int Tryz.underlying3 (hval 2 3 v2 rfl rfl)
  obtain ⟨m2, hm2⟩ := h2
  obtain ⟨x2', e2, i2⟩ := open_int1 (cs := [.int .i64 x2]) (by simpa [Value.cells] using hm2)
  obtain rfl : x2 = x2' := by simpa using e2
  clear hm2 e2
  have hT := tabs_of_laid hL
  clear hA0 hval0
  refine (lsigned_walk s0 a0 n0 c0 ra0 rn0 rc0 rs0 x1 i1 x2 i2 W hT S0 R0).mono fun e W' ⟨he, bel⟩ => ?_
  subst he
  exact ⟨_, rfl, _, _, _, [], _, [], hW', trodAll_mk1 (shut_bool Tryz.underlying4 _),
    (trodAll_cons_mk (Below.trod laidOut (by kernel_rfl) (of_decide_eq_true (by kernel_rfl)) k0' bel lt0) (trodAll_cons_mk (Below.trod laidOut (by kernel_rfl) (of_decide_eq_true (by kernel_rfl)) k1' bel lt1) (trodAll_cons_mk (Below.trod laidOut (by kernel_rfl) (of_decide_eq_true (by kernel_rfl)) k2' bel lt2) trodAll_mk0))), rfl, bel.frame _, fun h => by cases h⟩

theorem over : Rows.LiarSignedSaid :=
  OpenClaim.holds_of_wide 9 Tryz.f9 rfl rfl rfl rfl rfl rfl rfl ⟨rfl, rfl, rfl, rfl, rfl⟩ rfl rfl rfl rfl rfl (by kernel_rfl) Tryz.func9 (by kernel_rfl)
    (of_decide_eq_true (by kernel_rfl)) (by unfold Func.isWrapper; first | (rw [if_pos (by decide +kernel)]; kernel_rfl) | (rw [if_neg (by decide +kernel)]; exact ⟨rfl, rfl⟩))
    (fun os started H enc _ => lifted os started H enc)

theorem proved : Rows.LiarSignedCardSaid :=
  Claim7.holds_tied_plain_at .later [] [.data, .data] true (true, "61e2f70981a8c0bfaff58b11096e9b014427882e52d813c9818ce2f80f8e3bab") false
    over (fun _ h => by cases h) (by kernel_rfl) (fun _ h => by cases h) liarSigned_row_tie rfl ⟨rfl, rfl⟩ (by kernel_rfl) rfl
    (fun f fn hf hfn => by
      obtain rfl : f = 9 := Option.some.inj ((show Tryz.prog.funcNamed "chartroom/chartroomlaw31.LiarSigned" = some 9 by kernel_rfl).symm.trans hf) |>.symm
      obtain rfl : fn = Tryz.f9 := (Option.some.inj (Tryz.func9.symm.trans hfn)).symm
      exact ⟨by kernel_rfl, fun j t ht => by
        rw [Tryz.params9] at ht
        have hm : t ∈ [27, 3, 3] := by simpa using Array.mem_of_getElem? ht
        have hall : ([27, 3, 3].all fun u => !Tryz.prog.wantsStandIn u) = true := by kernel_rfl
        exact (show Tryz.prog.wantsStandIn t = false by simpa using List.all_eq_true.1 hall t hm)⟩)
    (by kernel_rfl)
#print axioms proved
end Go.Proofs.YtiionehcmoginaaGreatDoor.lawLSigned

