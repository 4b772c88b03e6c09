/- store.message -/
import Derived.Test.YtgfmdjagamjpbaaDoorCof
import Derived.Test.YtgfmdjagamjpbaaDoorEnt
import Derived.Laws.BytesArg
namespace Go.Proofs.YtgfmdjagamjpbaaDoor
open Go.RowKit Go.Mem

def headC (st fo no : Int) (D : List Nat) (R S : Int) : List Value := [.int .i64 st, .int .i64 fo, .int .i64 no] ++ (bv D ++ [.int .i64 R, .int .i64 S])
/-- a digest as a text. -/
def txtD (D : List Nat) : ByteArray := strOfNums (D.map fun (x : Nat) => (x : Int))
/-- what is signed of a head. -/
def headD (st fo no : Int) (D : List Nat) : List Nat := Sha.tagged (octets ⟨#[104, 101, 97, 100]⟩) (encL [.int st, .int fo, .int no, .text (txtD D)])
def MsgPost (M : List Nat) (w : World) (e : Ending) (w' : World) : Prop := ∃ mb, e = .returned (.slice (some ⟨mb, 0, none⟩) 32 32) ∧ Blk w' mb 35 (bv M) ∧ Below w.heap.size w w'

theorem slice_at3 (W : World) (tb : Nat) :
    (Instr.sliceAt 35 (.pointer (some ⟨tb, 3, none⟩)) none none none).run Tryd.prog W = .ok (.slice (some ⟨tb, 3, none⟩) 32 32) W := by kernel_rfl
theorem dig_text (D : List Nat) (hD : D.length = 32) (tb : Nat) (W : World) (h : W.rangeAt tb 3 (bv D)) :
    (convert 46 9 (.slice (some ⟨tb, 3, none⟩) 32 32)).run Tryd.prog W = .ok (.string (txtD D)) W :=
  run_convert_bytes_arg (P := Tryd.prog) W 46 5 Tryd.underlying46 Tryd.underlying5 tb 3 32 32 (D.map fun (x : Nat) => (x : Int)) (by simp [hD]) (fun i hi => by
    have := h i (.int .u8 ((D.map fun (x : Nat) => (x : Int)).getD i 0)) (by
      simp only [bv, List.getElem?_map, List.getD]
      rw [List.getElem?_eq_getElem (by omega)]
      simp)
    exact this) 9 Tryd.underlying9
theorem sizeV : (Tryd.prog.info? 67).map (·.size) = some 4 := by kernel_rfl
theorem msg1_any (n : Int) (w : World) : Calls Tryd.prog 59 #[.int .i64 n] w fun e w' => e = .returned (.agg #[.int .i64 1, .int .i64 n, .string ⟨#[]⟩, .slice none 0 0]) ∧ Below w.heap.size w w' := by
  go_enter Tryd.func59, Tryd.ntmps59
  go_wp2_with fail
  exact bodyPost_ret (results_cell_row rfl _ _ w.heap.size 67 #[Value.int .i64 1, Value.int .i64 n, Value.string ⟨#[]⟩, Value.slice none 0 0] (0, 0) _ rfl (Blk.new w 67 [.int .i64 1, .int .i64 n, .string ⟨#[]⟩, .slice none 0 0]) Tryd.underlying67 rfl sizeV) rfl ⟨rfl, (Below.refl _ w).alloc (Nat.le_refl _) _⟩

theorem encF_lt (x : FV) : ∀ u ∈ encF x, u < 256 := by
  cases x with
  | int m =>
    intro u hu
    rcases List.mem_cons.1 hu with rfl | h
    · omega
    · exact Cod.numl_lt _ u h
  | text s =>
    intro u hu
    rcases List.mem_cons.1 hu with rfl | h
    · omega
    · rcases List.mem_append.1 h with h | h
      · exact Cod.numl_lt _ u h
      · obtain ⟨b, _, rfl⟩ := List.mem_map.1 h
        exact b.toNat_lt
theorem encL_lt (l : List FV) : ∀ u ∈ encL l, u < 256 := by
  intro u hu
  rcases List.mem_cons.1 hu with rfl | h
  · omega
  · rcases List.mem_append.1 h with h | h
    · exact Cod.numl_lt _ u h
    · obtain ⟨q, hq, hu⟩ := List.mem_flatten.1 h
      obtain ⟨x, _, rfl⟩ := List.mem_map.1 hq
      exact encF_lt x u hu
theorem txtD_len (D : List Nat) : (txtD D).size = D.length := by unfold txtD; rw [strOfNums_size, List.length_map]

/-- what the walk keeps of the head's box. -/
def MsgS (w : World) (tb : Nat) (st fo no : Int) (D : List Nat) (wz : World) : Prop := wz.cell? ⟨tb, 0, none⟩ = some (.int .i64 st) ∧ wz.cell? ⟨tb, 1, none⟩ = some (.int .i64 fo) ∧ wz.cell? ⟨tb, 2, none⟩ = some (.int .i64 no) ∧ wz.rangeAt tb 3 (bv D) ∧ tb < wz.heap.size ∧ Below w.heap.size w wz
section
variable {w wz wq : World} {tb : Nat} {st fo no : Int} {D : List Nat}
theorem MsgS.next (hb : Below wz.heap.size wz wq) (h : MsgS w tb st fo no D wz) : MsgS w tb st fo no D wq :=
  ⟨(hb.cell (p := ⟨tb, 0, none⟩) h.2.2.2.2.1).trans h.1, (hb.cell (p := ⟨tb, 1, none⟩) h.2.2.2.2.1).trans h.2.1, (hb.cell (p := ⟨tb, 2, none⟩) h.2.2.2.2.1).trans h.2.2.1, fun j v hj => (hb.cell (p := ⟨tb, 3 + j, none⟩) h.2.2.2.2.1).trans (h.2.2.2.1 j v hj), Nat.lt_of_lt_of_le h.2.2.2.2.1 hb.size, h.2.2.2.2.2.trans (hb.mono h.2.2.2.2.2.size)⟩
theorem MsgS.nextB (hb : Below wz.heap.size wz wq) (h : wz.cell? ⟨tb, 0, none⟩ = some (.int .i64 st) ∧ wz.cell? ⟨tb, 1, none⟩ = some (.int .i64 fo) ∧ wz.cell? ⟨tb, 2, none⟩ = some (.int .i64 no) ∧ wz.rangeAt tb 3 (bv D) ∧ tb < wz.heap.size ∧ Below w.heap.size w wz) : wq.cell? ⟨tb, 0, none⟩ = some (.int .i64 st) ∧ wq.cell? ⟨tb, 1, none⟩ = some (.int .i64 fo) ∧ wq.cell? ⟨tb, 2, none⟩ = some (.int .i64 no) ∧ wq.rangeAt tb 3 (bv D) ∧ tb < wq.heap.size ∧ Below w.heap.size w wq := MsgS.next hb h
theorem MsgS.drewB (h : wz.cell? ⟨tb, 0, none⟩ = some (.int .i64 st) ∧ wz.cell? ⟨tb, 1, none⟩ = some (.int .i64 fo) ∧ wz.cell? ⟨tb, 2, none⟩ = some (.int .i64 no) ∧ wz.rangeAt tb 3 (bv D) ∧ tb < wz.heap.size ∧ Below w.heap.size w wz) : wz.drew.cell? ⟨tb, 0, none⟩ = some (.int .i64 st) ∧ wz.drew.cell? ⟨tb, 1, none⟩ = some (.int .i64 fo) ∧ wz.drew.cell? ⟨tb, 2, none⟩ = some (.int .i64 no) ∧ wz.drew.rangeAt tb 3 (bv D) ∧ tb < wz.drew.heap.size ∧ Below w.heap.size w wz.drew := MsgS.next (Below.refl _ wz).drew h
theorem MsgS.allocB (h : wz.cell? ⟨tb, 0, none⟩ = some (.int .i64 st) ∧ wz.cell? ⟨tb, 1, none⟩ = some (.int .i64 fo) ∧ wz.cell? ⟨tb, 2, none⟩ = some (.int .i64 no) ∧ wz.rangeAt tb 3 (bv D) ∧ tb < wz.heap.size ∧ Below w.heap.size w wz) (o : Obj) : (wz.alloc o).cell? ⟨tb, 0, none⟩ = some (.int .i64 st) ∧ (wz.alloc o).cell? ⟨tb, 1, none⟩ = some (.int .i64 fo) ∧ (wz.alloc o).cell? ⟨tb, 2, none⟩ = some (.int .i64 no) ∧ (wz.alloc o).rangeAt tb 3 (bv D) ∧ tb < (wz.alloc o).heap.size ∧ Below w.heap.size w (wz.alloc o) := MsgS.next ((Below.refl _ wz).alloc (Nat.le_refl _) o) h
end

theorem MsgS.box (w : World) (tb : Nat) (htb : w.heap.size = tb) (st fo no : Int) (D : List Nat) (R S : Int) : MsgS w tb st fo no D (w.alloc (.cells (headC st fo no D R S).toArray 39)) := by
  subst htb
  have h := Blk.new w 39 (headC st fo no D R S)
  refine ⟨h.at_ (i := 0) rfl, h.at_ (i := 1) rfl, h.at_ (i := 2) rfl, fun j v hj => ?_, h.lt, (Below.refl _ w).alloc (Nat.le_refl _) _⟩
  refine h.at_ (i := 3 + j) ?_
  unfold headC
  rw [List.getElem?_append_right (by simp)]
  simp only [List.length_cons, List.length_nil, Nat.add_sub_cancel_left]
  rw [List.getElem?_append_left (List.getElem?_eq_some_iff.1 hj).1]
  exact hj

set_option maxRecDepth 20000 in
set_option maxHeartbeats 4000000 in
theorem message_any (st fo no R S : Int) (D : List Nat) (hst : I64 st) (hfo : I64 fo) (hno : I64 no) (hD : D.length = 32 ∧ ∀ u ∈ D, u < 256) (w : World) (HT : Tabs w) :
    Calls Tryd.prog 33 #[.agg (headC st fo no D R S).toArray] w (MsgPost (headD st fo no D) w) := by
  have HT' := Lib.hid HT
  obtain ⟨tb, htb⟩ : ∃ tb, Hid (w.heap.size = tb) := ⟨_, rfl⟩
  have hS := MsgS.box w tb htb.out st fo no D R S
  have hsl := fun W => slice_at3 W tb
  have hok : Hid (∀ x ∈ [FV.int st, .int fo, .int no, .text (txtD D)], FVok x) := fun x hx => by
    simp only [List.mem_cons, List.not_mem_nil, or_false] at hx
    rcases hx with rfl | rfl | rfl | rfl
    · exact hst
    · exact hfo
    · exact hno
    · show (txtD D).size ≤ 1000
      rw [txtD_len, hD.1]; omega
  have hcv := fun W h => dig_text D hD.1 tb W h
  have hhd : Hid (Sha.tagged (octets ⟨#[104, 101, 97, 100]⟩) (encL [.int st, .int fo, .int no, .text (txtD D)]) = headD st fo no D) := rfl
  have henc : Hid (∀ x ∈ encL [FV.int st, .int fo, .int no, .text (txtD D)], x < 256) := encL_lt _
  have hel : Hid ((encL [FV.int st, .int fo, .int no, .text (txtD D)]).length ≤ 10000) := by
    have h1 := encs_len _ hok.out
    have h2 := Cod.numl_len64 (u := 0 + 1 + 1 + 1 + 1) (by omega)
    show (encL _).length ≤ 10000
    simp only [encL, List.length_cons, List.length_append, List.length_nil] at h1 h2 ⊢
    omega
  obtain ⟨T, hT⟩ : ∃ T, Hid (txtD D = T) := ⟨_, rfl⟩
  rw [hT.out] at hok hcv hhd henc hel
  have hM : Hid ((headD st fo no D).length = 32) := Sha.tagged_length _ _
  generalize headD st fo no D = M at *
  have hm1 := Lib.hid (fun n W => msg1_any n W)
  obtain ⟨r, hr⟩ : ∃ r, Hid (headC st fo no D R S = r) := ⟨_, rfl⟩
  have hone : ∀ u ∈ r, u.oneCell' = true := by
    rw [← hr.out]; unfold headC
    intro u hu
    rcases List.mem_append.1 hu with h | h
    · simp only [List.mem_cons, List.not_mem_nil, or_false] at h
      rcases h with rfl | rfl | rfl <;> rfl
    · rcases List.mem_append.1 h with h | h
      · exact bv_one D u h
      · simp only [List.mem_cons, List.not_mem_nil, or_false] at h
        rcases h with rfl | rfl <;> rfl
  rw [hr.out] at hS ⊢
  clear hT hr HT hst hfo hno hD
  go_enter Tryd.func33, Tryd.ntmps33
  go_wp2_with fail
  rw [htb.out]
  generalize w.alloc (.cells r.toArray 39) = w1 at *
  clear hone
  go_region_held3 (fun wz => wz.cell? ⟨tb, 0, none⟩ = some (.int .i64 st) ∧ wz.cell? ⟨tb, 1, none⟩ = some (.int .i64 fo) ∧ wz.cell? ⟨tb, 2, none⟩ = some (.int .i64 no) ∧ wz.rangeAt tb 3 (bv D) ∧ tb < wz.heap.size ∧ Below w.heap.size w wz) (repeat (first | assumption | apply MsgS.drewB | apply MsgS.allocB))
    (first
      | (go_at_call 59; refine (hm1.out _ _).mono ?_; rintro e wq ⟨rfl, hbq⟩; have hsq := MsgS.nextB hbq (by assumption))
      | (go_at_call 21; refine (Encode_any _ 4 4 [.int st, .int fo, .int no, .text T] hok.out _ ⟨Blk.new _ _ _, rfl, Nat.le_refl _, by omega, by omega⟩).mono ?_; rintro e wq ⟨v5, rfl, ho5, hbq⟩; have hsq := MsgS.nextB hbq (by assumption)))
  obtain ⟨a5, c5, rfl, hB5⟩ := BS.own ho5 henc.out
  have hb5 := Lib.hid hsq.2.2.2.2.2
  have hB5' := Lib.hid hB5
  have hel' := hel.out
  clear hB5 ho5 hsq hS hbq hm1 hok hcv hsl henc
  go_wp2_with fail
  refine (tagged_any ⟨#[104, 101, 97, 100]⟩ (by decide) _ _ _ _ _ (HT'.out.below hb5.out) hB5'.out (by omega)).mono ?_
  rintro e w8 ⟨rfl, hb8⟩
  have hb9 := Lib.hid (hb5.out.trans (hb8.mono hb5.out.size))
  rw [hhd.out]
  obtain ⟨W9, hP⟩ := put_dig (x := M) (Blk.new w8 35 (bv (List.replicate 32 0))) (by simp) hM.out
  have hbl : Hid (Blk W9 w8.heap.size 35 (bv M)) := hP.blk
  have hb10 : Hid (Below w.heap.size w W9) := below_grown (hb9.out.alloc hb9.out.size _) hP.grown (Nat.le_trans hb9.out.size (by simp)) hb9.out.size
  have s1 := fun W => slice_all W w8.heap.size
  obtain ⟨RES, hRES⟩ : ∃ RES, Hid (bv M = RES) := ⟨_, rfl⟩
  rw [hRES.out] at hP ⊢
  have hP' := Lib.hid hP
  clear hP hb8 hB5' hel hel' hhd hb9
  go_wp2_with (first
    | (refine wpList_store_mid (by rfl) 35 (.tmp 6) (.tmp 30) (by rfl) w8.heap.size 0 RES.toArray (by rfl) (by rfl) hP'.out.there hP'.out.info (by simpa using hP'.out.one) ?_
       generalize hW9 : World.setCells _ _ _ _ = Wa
       obtain rfl : W9 = Wa := by rw [← hW9]; exact hP'.out.eq
       clear hW9))
  go_ret
  exact ⟨_, rfl, hbl.out, hb10.out⟩
end Go.Proofs.YtgfmdjagamjpbaaDoor
