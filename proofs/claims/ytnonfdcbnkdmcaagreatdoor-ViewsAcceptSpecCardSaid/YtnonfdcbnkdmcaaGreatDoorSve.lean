/- store.Verify -/
import Derived.Test.YtnonfdcbnkdmcaaGreatDoorAl
import Derived.Test.YtnonfdcbnkdmcaaGreatDoorCoA
import Derived.Test.YtnonfdcbnkdmcaaGreatDoorFin
import Derived.Test.YtnonfdcbnkdmcaaGreatDoorSgn3
namespace Go.Proofs.YtnonfdcbnkdmcaaGreatDoor
open Go.RowKit Go.Mem

def headB (pub st fo no : Int) (D : List Nat) (R S : Int) : Bool := decide (0 ≤ st) && decide (st < 4) && Sto.folderB fo && decide (0 ≤ no) && decide (no ≤ 65536) && verB 4 pub (headD st fo no D) R S

def HeadW (w : World) (tb : Nat) (r : List Value) (wz : World) : Prop := Blk wz tb 36 r ∧ Below w.heap.size w wz
structure HeadR (st fo no R S : Int) (D : List Nat) (r : List Value) : Prop where
 eq : headC st fo no D R S = r
 dig : D.length = 32
theorem HeadR.len {st fo no R S : Int} {D : List Nat} {r : List Value} (h : HeadR st fo no R S D r) : r.length = 37 := by rw [← h.eq]; simp [headC, bv_length, h.dig]
theorem HeadR.at0 {st fo no R S : Int} {D : List Nat} {r : List Value} (h : HeadR st fo no R S D r) : r[0]? = some (.int .i64 st) ∧ r[1]? = some (.int .i64 fo) ∧ r[2]? = some (.int .i64 no) := by rw [← h.eq]; exact ⟨rfl, rfl, rfl⟩
theorem HeadR.at3 {st fo no R S : Int} {D : List Nat} {r : List Value} (h : HeadR st fo no R S D r) : r[35]? = some (.int .i64 R) ∧ r[36]? = some (.int .i64 S) := by
 rw [← h.eq]
 unfold headC
 have hd := h.dig
 constructor
 · rw [List.getElem?_append_right (by simp), List.getElem?_append_right (by simp [bv_length, hd])]
   simp [bv_length, hd]
 · rw [List.getElem?_append_right (by simp), List.getElem?_append_right (by simp [bv_length, hd])]
   simp [bv_length, hd]
theorem HeadR.one {st fo no R S : Int} {D : List Nat} {r : List Value} (h : HeadR st fo no R S D r) : ∀ u ∈ r, u.oneCell' = true := by
 rw [← h.eq]; unfold headC
 intro u hu
 rcases List.mem_append.1 hu with h | h
 · simp only [List.mem_cons, List.not_mem_nil, or_false] at h
   rcases h with rfl | rfl | rfl <;> rfl
 · rcases List.mem_append.1 h with h | h
   · exact bv_one D u h
   · simp only [List.mem_cons, List.not_mem_nil, or_false] at h
     rcases h with rfl | rfl <;> rfl
section
variable {w wz wq : World} {tb : Nat} {st fo no R S : Int} {D : List Nat} {r : List Value}
theorem HeadW.mk' (hr : HeadR st fo no R S D r) (h : HeadW w tb r wz) : wz.cell? ⟨tb, 0, none⟩ = some (.int .i64 st) ∧ wz.cell? ⟨tb, 1, none⟩ = some (.int .i64 fo) ∧ wz.cell? ⟨tb, 2, none⟩ = some (.int .i64 no) ∧ wz.rangeAt tb 0 r ∧ wz.cell? ⟨tb, 35, none⟩ = some (.int .i64 R) ∧ wz.cell? ⟨tb, 36, none⟩ = some (.int .i64 S) ∧ HeadW w tb r wz :=
 ⟨h.1.at_ hr.at0.1, h.1.at_ hr.at0.2.1, h.1.at_ hr.at0.2.2, h.1.range, h.1.at_ hr.at3.1, h.1.at_ hr.at3.2, h⟩
theorem HeadW.next (hb : Below wz.heap.size wz wq) (h : HeadW w tb r wz) : HeadW w tb r wq := ⟨h.1.below hb h.1.lt, h.2.trans (hb.mono h.2.size)⟩
theorem HeadW.nextB (hr : HeadR st fo no R S D r) (hb : Below wz.heap.size wz wq) (h : wz.cell? ⟨tb, 0, none⟩ = some (.int .i64 st) ∧ wz.cell? ⟨tb, 1, none⟩ = some (.int .i64 fo) ∧ wz.cell? ⟨tb, 2, none⟩ = some (.int .i64 no) ∧ wz.rangeAt tb 0 r ∧ wz.cell? ⟨tb, 35, none⟩ = some (.int .i64 R) ∧ wz.cell? ⟨tb, 36, none⟩ = some (.int .i64 S) ∧ HeadW w tb r wz) : wq.cell? ⟨tb, 0, none⟩ = some (.int .i64 st) ∧ wq.cell? ⟨tb, 1, none⟩ = some (.int .i64 fo) ∧ wq.cell? ⟨tb, 2, none⟩ = some (.int .i64 no) ∧ wq.rangeAt tb 0 r ∧ wq.cell? ⟨tb, 35, none⟩ = some (.int .i64 R) ∧ wq.cell? ⟨tb, 36, none⟩ = some (.int .i64 S) ∧ HeadW w tb r wq := (h.2.2.2.2.2.2.next hb).mk' hr
theorem HeadW.drewB (hr : HeadR st fo no R S D r) (h : wz.cell? ⟨tb, 0, none⟩ = some (.int .i64 st) ∧ wz.cell? ⟨tb, 1, none⟩ = some (.int .i64 fo) ∧ wz.cell? ⟨tb, 2, none⟩ = some (.int .i64 no) ∧ wz.rangeAt tb 0 r ∧ wz.cell? ⟨tb, 35, none⟩ = some (.int .i64 R) ∧ wz.cell? ⟨tb, 36, none⟩ = some (.int .i64 S) ∧ HeadW w tb r wz) : wz.drew.cell? ⟨tb, 0, none⟩ = some (.int .i64 st) ∧ wz.drew.cell? ⟨tb, 1, none⟩ = some (.int .i64 fo) ∧ wz.drew.cell? ⟨tb, 2, none⟩ = some (.int .i64 no) ∧ wz.drew.rangeAt tb 0 r ∧ wz.drew.cell? ⟨tb, 35, none⟩ = some (.int .i64 R) ∧ wz.drew.cell? ⟨tb, 36, none⟩ = some (.int .i64 S) ∧ HeadW w tb r wz.drew := HeadW.nextB hr (Below.refl _ wz).drew h
theorem HeadW.allocB (hr : HeadR st fo no R S D r) (h : wz.cell? ⟨tb, 0, none⟩ = some (.int .i64 st) ∧ wz.cell? ⟨tb, 1, none⟩ = some (.int .i64 fo) ∧ wz.cell? ⟨tb, 2, none⟩ = some (.int .i64 no) ∧ wz.rangeAt tb 0 r ∧ wz.cell? ⟨tb, 35, none⟩ = some (.int .i64 R) ∧ wz.cell? ⟨tb, 36, none⟩ = some (.int .i64 S) ∧ HeadW w tb r wz) (o : Obj) : (wz.alloc o).cell? ⟨tb, 0, none⟩ = some (.int .i64 st) ∧ (wz.alloc o).cell? ⟨tb, 1, none⟩ = some (.int .i64 fo) ∧ (wz.alloc o).cell? ⟨tb, 2, none⟩ = some (.int .i64 no) ∧ (wz.alloc o).rangeAt tb 0 r ∧ (wz.alloc o).cell? ⟨tb, 35, none⟩ = some (.int .i64 R) ∧ (wz.alloc o).cell? ⟨tb, 36, none⟩ = some (.int .i64 S) ∧ HeadW w tb r (wz.alloc o) := HeadW.nextB hr ((Below.refl _ wz).alloc (Nat.le_refl _) o) h
end
theorem HeadW.bl {w wz : World} {tb : Nat} {st fo no R S : Int} {r : List Value} (h : wz.cell? ⟨tb, 0, none⟩ = some (.int .i64 st) ∧ wz.cell? ⟨tb, 1, none⟩ = some (.int .i64 fo) ∧ wz.cell? ⟨tb, 2, none⟩ = some (.int .i64 no) ∧ wz.rangeAt tb 0 r ∧ wz.cell? ⟨tb, 35, none⟩ = some (.int .i64 R) ∧ wz.cell? ⟨tb, 36, none⟩ = some (.int .i64 S) ∧ HeadW w tb r wz) : Below w.heap.size w wz := h.2.2.2.2.2.2.2
theorem dig_bs {w : World} {mb : Nat} {M : List Nat} (hM : M.length = 32 ∧ ∀ u ∈ M, u < 256) (h : Blk w mb 32 (bv M)) : BS w (some ⟨mb, 0, none⟩) 32 32 M := by
 have := Blk.bs (pre := []) (post := []) (l := M) (c := 32) (by simpa using h) (by rw [hM.1]; omega) (by omega) hM.2
 rwa [hM.1] at this
theorem below_drewN' {B : Nat} {w w' : World} (h : Below B w w') (n : Nat) : Below B w (w'.drewN n) := ⟨h.os, h.tape, h.output, h.size, h.block⟩
theorem sizeH : (Tryz.prog.info? 36).map (·.size) = some 37 := by kernel_rfl

set_option maxRecDepth 20000 in
set_option maxHeartbeats 4000000 in
theorem sVerify_any (pub st fo no R S : Int) (D : List Nat) (hp : I64 pub) (hst : I64 st) (hfo : I64 fo) (hno : I64 no) (hR : I64 R) (hD : D.length = 32 ∧ ∀ u ∈ D, u < 256) (w : World) (HT : Tabs w) :
 Calls Tryz.prog 66 #[.int .i64 pub, .agg (headC st fo no D R S).toArray] w (RetBo (headB pub st fo no D R S) w) := by
 have HT' := Lib.hid HT
 obtain ⟨tb, htb⟩ : ∃ tb, Hid (w.heap.size = tb) := ⟨_, rfl⟩
 obtain ⟨r, hr⟩ : ∃ r, HeadR st fo no R S D r := ⟨_, rfl, hD.1⟩
 have hmsg := Lib.hid (fun W h => message_any st fo no R S D hst hfo hno hD W h)
 have hM : Hid ((headD st fo no D).length = 32 ∧ ∀ u ∈ headD st fo no D, u < 256) := ⟨Sha.tagged_length _ _, Sha.tagged_lt _ _⟩
 have hW := HeadW.mk' hr (show HeadW w tb r (w.alloc (.cells r.toArray 36)) from ⟨htb.out ▸ Blk.new w _ _, (Below.refl _ w).alloc (Nat.le_refl _) _⟩)
 have hone := hr.one
 have hfol := Lib.hid (fun W => isFolder_any fo W)
 have hri : (Tryz.prog.info? 36).map (·.size) = some r.length := by rw [hr.len]; exact sizeH
 have hu := Tryz.underlying36
 rw [hr.eq] at hmsg ⊢
 obtain ⟨v, hv⟩ : ∃ v, Hid (headB pub st fo no D R S = v) := ⟨_, rfl⟩
 rw [hv.out]
 unfold headB at hv
 obtain ⟨fb, hfb⟩ : ∃ fb, Hid (Sto.folderB fo = fb) := ⟨_, rfl⟩
 rw [hfb.out] at hfol hv
 have hver := Lib.hid (fun (R' S' : Int) (h : I64 R') W mb hT hB => Verify_any pub R' S' hp h (some ⟨mb, 0, none⟩) 32 32 (headD st fo no D) W hT hB (by omega))
 generalize headD st fo no D = M at *
 clear HT
 have fin : Hid (∀ W, HeadW w tb r W → v = false → RetBo v w (.returned (.bool false)) W) := fun W h e => ⟨by rw [e], h.2⟩
 have hcs : (v = false ∧ (decide (0 ≤ st) = false ∨ (decide (0 ≤ st) = true ∧ decide (st < 4) = false) ∨ (decide (0 ≤ st) = true ∧ decide (st < 4) = true ∧ fb = false) ∨ (decide (0 ≤ st) = true ∧ decide (st < 4) = true ∧ fb = true ∧ decide (0 ≤ no) = false) ∨ (decide (0 ≤ st) = true ∧ decide (st < 4) = true ∧ fb = true ∧ decide (0 ≤ no) = true ∧ decide (no ≤ 65536) = false)))
  ∨ (verB 4 pub M R S = v ∧ decide (0 ≤ st) = true ∧ decide (st < 4) = true ∧ fb = true ∧ decide (0 ≤ no) = true ∧ decide (no ≤ 65536) = true) := by
  have h := hv.out
  cases h1 : decide (0 ≤ st) <;> cases h2 : decide (st < 4) <;> cases fb <;> cases h3 : decide (0 ≤ no) <;> cases h4 : decide (no ≤ 65536) <;> simp [h1, h2, h3, h4] at h ⊢ <;> first | exact h | exact h.symm
 clear hv
 rcases hcs with ⟨rfl, h1 | ⟨h1, h2⟩ | ⟨h1, h2, rfl⟩ | ⟨h1, h2, rfl, h3⟩ | ⟨h1, h2, rfl, h3, h4⟩⟩ | ⟨hv, h1, h2, rfl, h3, h4⟩
 case inr =>
  have hver' := Lib.hid (fun W mb hT hB => hver.out R S hR W mb hT hB)
  rw [hv] at hver'
  have hM' := hM.out
  clear hver fin hv hp hst hfo hno hR hD hfb
  go_enter Tryz.func66, Tryz.ntmps66
  go_wp2_with fail
  rw [htb.out]
  generalize w.alloc (.cells r.toArray 36) = w1 at *
  clear hone
  refine wp_region_held_drew (S := fun wz => wz.cell? ⟨tb, 0, none⟩ = some (.int .i64 st) ∧ wz.cell? ⟨tb, 1, none⟩ = some (.int .i64 fo) ∧ wz.cell? ⟨tb, 2, none⟩ = some (.int .i64 no) ∧ wz.rangeAt tb 0 r ∧ wz.cell? ⟨tb, 35, none⟩ = some (.int .i64 R) ∧ wz.cell? ⟨tb, 36, none⟩ = some (.int .i64 S) ∧ HeadW w tb r wz) (by kernel_rfl) (HeadW.drewB hr hW) (fun hHeld => ?_)
  refine tG 0 (v := ?_) rfl (Or.inl ⟨by rfl, ?_⟩) hHeld ?_
  rotate_left
  · intro wz hSw
    (try dsimp only at hSw)
    go_simp
    all_goals (with_reducible rfl)
  try simp only [Act.put, sA, s0, s1]
  refine tG 1 (v := ?_) rfl (Or.inl ⟨by rfl, ?_⟩) hHeld ?_
  rotate_left
  · intro wz hSw
    (try dsimp only at hSw)
    go_simp
    all_goals (with_reducible rfl)
  try simp only [Act.put, sA, s0, s1]
  refine tG 2 (v := ?_) rfl (Or.inl ⟨by rfl, ?_⟩) hHeld ?_
  rotate_left
  · intro wz hSw
    (try dsimp only at hSw)
    go_simp
    all_goals (with_reducible rfl)
  try simp only [Act.put, sA, s0, s1]
  refine tG 3 (v := ?_) rfl (Or.inl ⟨by rfl, ?_⟩) hHeld ?_
  rotate_left
  · intro wz hSw
    (try dsimp only at hSw)
    go_simp
    all_goals (with_reducible rfl)
  try simp only [Act.put, sA, s0, s1]
  refine tG 4 (v := ?_) rfl (Or.inl ⟨by rfl, ?_⟩) hHeld ?_
  rotate_left
  · intro wz hSw
    (try dsimp only at hSw)
    go_simp
    all_goals (with_reducible rfl)
  try simp only [Act.put, sA, s0, s1]
  refine tG 5 (v := ?_) rfl (Or.inl ⟨by rfl, ?_⟩) hHeld ?_
  rotate_left
  · intro wz hSw
    (try dsimp only at hSw)
    go_simp
    all_goals (with_reducible rfl)
  try simp only [Act.put, sA, s0, s1]
  refine tG 6 (v := ?_) rfl (Or.inl ⟨by rfl, ?_⟩) hHeld ?_
  rotate_left
  · intro wz hSw
    (try dsimp only at hSw)
    go_simp
    all_goals (with_reducible rfl)
  try simp only [Act.put, sA, s0, s1]
  refine tG 7 (v := ?_) rfl (Or.inl ⟨by rfl, ?_⟩) hHeld ?_
  rotate_left
  · intro wz hSw
    (try dsimp only at hSw)
    go_simp
    all_goals (with_reducible rfl)
  try simp only [Act.put, sA, s0, s1]
  refine tG 8 (v := ?_) rfl (Or.inl ⟨by rfl, ?_⟩) hHeld ?_
  rotate_left
  · intro wz hSw
    (try dsimp only at hSw)
    go_simp
    all_goals (with_reducible rfl)
  try simp only [Act.put, sA, s0, s1]
  refine tG 9 (v := ?_) rfl (Or.inl ⟨by rfl, ?_⟩) hHeld ?_
  rotate_left
  · intro wz hSw
    (try dsimp only at hSw)
    go_simp
    all_goals (with_reducible rfl)
  try simp only [Act.put, sA, s0, s1]
  refine tG 10 (v := ?_) rfl (Or.inl ⟨by rfl, ?_⟩) hHeld ?_
  rotate_left
  · intro wz hSw
    (try dsimp only at hSw)
    go_simp
    all_goals (with_reducible rfl)
  try simp only [Act.put, sA, s0, s1]
  refine tO 11 rfl (fun K hK => ?_)
  go_simp
  go_at_call 91
  refine (hfol.out _).mono ?_
  rintro e wq ⟨rfl, rfl⟩
  refine hK.out _ _ hHeld (fun hHeld => ?_)
  clear hK K
  try simp only [Act.put, sA, s0, s1]
  refine tG 12 (v := ?_) rfl (Or.inl ⟨by rfl, ?_⟩) hHeld ?_
  rotate_left
  · intro wz hSw
    (try dsimp only at hSw)
    go_simp
    all_goals (with_reducible rfl)
  try simp only [Act.put, sA, s0, s1]
  refine tG 13 (v := ?_) rfl (Or.inl ⟨by rfl, ?_⟩) hHeld ?_
  rotate_left
  · intro wz hSw
    (try dsimp only at hSw)
    go_simp
    all_goals (with_reducible rfl)
  try simp only [Act.put, sA, s0, s1]
  refine tG 14 (v := ?_) rfl (Or.inl ⟨by rfl, ?_⟩) hHeld ?_
  rotate_left
  · intro wz hSw
    (try dsimp only at hSw)
    go_simp
    all_goals (with_reducible rfl)
  try simp only [Act.put, sA, s0, s1]
  refine tG 15 (v := ?_) rfl (Or.inl ⟨by rfl, ?_⟩) hHeld ?_
  rotate_left
  · intro wz hSw
    (try dsimp only at hSw)
    go_simp
    all_goals (with_reducible rfl)
  try simp only [Act.put, sA, s0, s1]
  refine tG 16 (v := ?_) rfl (Or.inl ⟨by rfl, ?_⟩) hHeld ?_
  rotate_left
  · intro wz hSw
    (try dsimp only at hSw)
    go_simp
    all_goals (with_reducible rfl)
  try simp only [Act.put, sA, s0, s1]
  refine tG 17 (v := ?_) rfl (Or.inl ⟨by rfl, ?_⟩) hHeld ?_
  rotate_left
  · intro wz hSw
    (try dsimp only at hSw)
    go_simp
    all_goals (with_reducible rfl)
  try simp only [Act.put, sA, s0, s1]
  refine tG 18 (v := ?_) rfl (Or.inl ⟨by rfl, ?_⟩) hHeld ?_
  rotate_left
  · intro wz hSw
    (try dsimp only at hSw)
    go_simp
    all_goals (with_reducible rfl)
  try simp only [Act.put, sA, s0, s1]
  refine tG 19 (v := ?_) rfl (Or.inl ⟨by rfl, ?_⟩) hHeld ?_
  rotate_left
  · intro wz hSw
    (try dsimp only at hSw)
    go_simp
    all_goals (with_reducible rfl)
  try simp only [Act.put, sA, s0, s1]
  refine tG 20 (v := ?_) rfl (Or.inl ⟨by rfl, ?_⟩) hHeld ?_
  rotate_left
  · intro wz hSw
    (try dsimp only at hSw)
    go_simp
    all_goals (with_reducible rfl)
  try simp only [Act.put, sA, s0, s1]
  refine tG 21 (v := ?_) rfl (Or.inl ⟨by rfl, ?_⟩) hHeld ?_
  rotate_left
  · intro wz hSw
    (try dsimp only at hSw)
    go_simp
    all_goals (with_reducible rfl)
  try simp only [Act.put, sA, s0, s1]
  refine tG 22 (v := ?_) rfl (Or.inl ⟨by rfl, ?_⟩) hHeld ?_
  rotate_left
  · intro wz hSw
    (try dsimp only at hSw)
    go_simp
    all_goals (with_reducible rfl)
  try simp only [Act.put, sA, s0, s1]
  refine tG 23 (v := ?_) rfl (Or.inl ⟨by rfl, ?_⟩) hHeld ?_
  rotate_left
  · intro wz hSw
    (try dsimp only at hSw)
    go_simp
    all_goals (with_reducible rfl)
  try simp only [Act.put, sA, s0, s1]
  refine tG 24 (v := ?_) rfl (Or.inl ⟨by rfl, ?_⟩) hHeld ?_
  rotate_left
  · intro wz hSw
    (try dsimp only at hSw)
    go_simp
    all_goals (with_reducible rfl)
  try simp only [Act.put, sA, s0, s1]
  refine tG 25 rfl (yieldsIf_load_mid (by rfl) _ _ rfl tb 0 rfl r _ (fun _ h => h.2.2.2.1) hu rfl hri) hHeld ?_
  refine tG 27 (v := ?_) rfl (Or.inl ⟨by rfl, ?_⟩) hHeld ?_
  rotate_left
  · intro wz hSw
    (try dsimp only at hSw)
    go_simp
    all_goals (with_reducible rfl)
  try simp only [Act.put, sA, s0, s1]
  refine tG 28 (v := ?_) rfl (Or.inl ⟨by rfl, ?_⟩) hHeld ?_
  rotate_left
  · intro wz hSw
    (try dsimp only at hSw)
    go_simp
    all_goals (with_reducible rfl)
  try simp only [Act.put, sA, s0, s1]
  refine tO 26 rfl (fun K hK => ?_)
  go_simp
  go_at_call 84
  refine (hmsg.out _ (HT'.out.below (HeadW.bl hHeld))).mono ?_
  rintro e wq ⟨mb, rfl, hmb, hbq⟩
  have hsq := HeadW.nextB hr hbq hHeld
  have hbs := dig_bs hM' hmb
  refine hK.out _ _ hsq (fun hHeld => ?_)
  clear hK K
  try simp only [Act.put, sA, s0, s1]
  refine tO 29 rfl (fun K hK => ?_)
  go_simp
  go_at_call 105
  refine (hver'.out _ mb (HT'.out.below (HeadW.bl hsq)) hbs).mono ?_
  rintro e w9 ⟨rfl, hb9⟩
  have hsq2 := HeadW.nextB hr hb9 hHeld
  refine hK.out _ _ hsq2 (fun hHeld => ?_)
  clear hK K
  try simp only [Act.put, sA, s0, s1]
  refine tG 30 (v := ?_) rfl (Or.inl ⟨by rfl, ?_⟩) hHeld ?_
  rotate_left
  · intro wz hSw
    (try dsimp only at hSw)
    go_simp
    all_goals (with_reducible rfl)
  try simp only [Act.put, sA, s0, s1]
  refine tG 31 (v := ?_) rfl (Or.inl ⟨by rfl, ?_⟩) hHeld ?_
  rotate_left
  · intro wz hSw
    (try dsimp only at hSw)
    go_simp
    all_goals (with_reducible rfl)
  try simp only [Act.put, sA, s0, s1]
  refine wpAnyH_done (by kernel_rfl) ?_ _
  go_wp2_with fail
  go_ret
  exact ⟨rfl, HeadW.bl hsq2⟩
 all_goals
  clear hver hmsg
  go_enter Tryz.func66, Tryz.ntmps66
  go_wp2_with fail
  rw [htb.out]
  generalize w.alloc (.cells r.toArray 36) = w1 at *
  obtain ⟨c0, c1, c2, _, _, _, hHW⟩ := hW
  have hHW' := Lib.hid hHW
  clear hHW hone hri hu
  go_quiet (first | (go_at_call 91; exact Calls.quiet_of_same (hfol.out _)))
  go_wp2_with fail
  go_ret
  exact fin.out _ ⟨hHW'.out.1, below_drewN' hHW'.out.2 _⟩ trivial
end Go.Proofs.YtnonfdcbnkdmcaaGreatDoor
