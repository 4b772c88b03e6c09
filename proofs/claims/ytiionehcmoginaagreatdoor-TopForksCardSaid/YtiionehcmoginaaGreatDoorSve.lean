/- store.Verify -/
import Derived.Test.YtiionehcmoginaaGreatDoorStA
import Derived.Test.YtiionehcmoginaaGreatDoorCoA
import Derived.Test.YtiionehcmoginaaGreatDoorFin
import Derived.Test.YtiionehcmoginaaGreatDoorSgn3
namespace Go.Proofs.YtiionehcmoginaaGreatDoor
open Go.RowKit Go.Mem

def headB (pub st fo no : Int) (D : List Nat) (R S : Int) : Bool := decide (0 ≤ st) && decide (st < 4) && Sto.folderB fo && decide (0 ≤ no) && decide (no ≤ 65536) && verB 4 pub (headD st fo no D) R S

def HeadW (w : World) (tb : Nat) (r : List Value) (wz : World) : Prop := Blk wz tb 36 r ∧ Below w.heap.size w wz
structure HeadR (st fo no R S : Int) (D : List Nat) (r : List Value) : Prop where
 eq : headC st fo no D R S = r
 dig : D.length = 32
theorem HeadR.len {st fo no R S : Int} {D : List Nat} {r : List Value} (h : HeadR st fo no R S D r) : r.length = 37 := by rw [← h.eq]; simp [headC, bv_length, h.dig]
theorem HeadR.at0 {st fo no R S : Int} {D : List Nat} {r : List Value} (h : HeadR st fo no R S D r) : r[0]? = some (.int .i64 st) ∧ r[1]? = some (.int .i64 fo) ∧ r[2]? = some (.int .i64 no) := by rw [← h.eq]; exact ⟨rfl, rfl, rfl⟩
theorem HeadR.at3 {st fo no R S : Int} {D : List Nat} {r : List Value} (h : HeadR st fo no R S D r) : r[35]? = some (.int .i64 R) ∧ r[36]? = some (.int .i64 S) := by
 rw [← h.eq]
 unfold headC
 have hd := h.dig
 constructor
 · rw [List.getElem?_append_right (by simp), List.getElem?_append_right (by simp [bv_length, hd])]
   simp [bv_length, hd]
 · rw [List.getElem?_append_right (by simp), List.getElem?_append_right (by simp [bv_length, hd])]
   simp [bv_length, hd]
theorem HeadR.one {st fo no R S : Int} {D : List Nat} {r : List Value} (h : HeadR st fo no R S D r) : ∀ u ∈ r, u.oneCell' = true := by
 rw [← h.eq]; unfold headC
 intro u hu
 rcases List.mem_append.1 hu with h | h
 · simp only [List.mem_cons, List.not_mem_nil, or_false] at h
   rcases h with rfl | rfl | rfl <;> rfl
 · rcases List.mem_append.1 h with h | h
   · exact bv_one D u h
   · simp only [List.mem_cons, List.not_mem_nil, or_false] at h
     rcases h with rfl | rfl <;> rfl
section
variable {w wz wq : World} {tb : Nat} {st fo no R S : Int} {D : List Nat} {r : List Value}
theorem HeadW.mk' (hr : HeadR st fo no R S D r) (h : HeadW w tb r wz) : wz.cell? ⟨tb, 0, none⟩ = some (.int .i64 st) ∧ wz.cell? ⟨tb, 1, none⟩ = some (.int .i64 fo) ∧ wz.cell? ⟨tb, 2, none⟩ = some (.int .i64 no) ∧ wz.rangeAt tb 0 r ∧ wz.cell? ⟨tb, 35, none⟩ = some (.int .i64 R) ∧ wz.cell? ⟨tb, 36, none⟩ = some (.int .i64 S) ∧ HeadW w tb r wz :=
 ⟨h.1.at_ hr.at0.1, h.1.at_ hr.at0.2.1, h.1.at_ hr.at0.2.2, h.1.range, h.1.at_ hr.at3.1, h.1.at_ hr.at3.2, h⟩
theorem HeadW.next (hb : Below wz.heap.size wz wq) (h : HeadW w tb r wz) : HeadW w tb r wq := ⟨h.1.below hb h.1.lt, h.2.trans (hb.mono h.2.size)⟩
theorem HeadW.nextB (hr : HeadR st fo no R S D r) (hb : Below wz.heap.size wz wq) (h : wz.cell? ⟨tb, 0, none⟩ = some (.int .i64 st) ∧ wz.cell? ⟨tb, 1, none⟩ = some (.int .i64 fo) ∧ wz.cell? ⟨tb, 2, none⟩ = some (.int .i64 no) ∧ wz.rangeAt tb 0 r ∧ wz.cell? ⟨tb, 35, none⟩ = some (.int .i64 R) ∧ wz.cell? ⟨tb, 36, none⟩ = some (.int .i64 S) ∧ HeadW w tb r wz) : wq.cell? ⟨tb, 0, none⟩ = some (.int .i64 st) ∧ wq.cell? ⟨tb, 1, none⟩ = some (.int .i64 fo) ∧ wq.cell? ⟨tb, 2, none⟩ = some (.int .i64 no) ∧ wq.rangeAt tb 0 r ∧ wq.cell? ⟨tb, 35, none⟩ = some (.int .i64 R) ∧ wq.cell? ⟨tb, 36, none⟩ = some (.int .i64 S) ∧ HeadW w tb r wq := (h.2.2.2.2.2.2.next hb).mk' hr
theorem HeadW.drewB (hr : HeadR st fo no R S D r) (h : wz.cell? ⟨tb, 0, none⟩ = some (.int .i64 st) ∧ wz.cell? ⟨tb, 1, none⟩ = some (.int .i64 fo) ∧ wz.cell? ⟨tb, 2, none⟩ = some (.int .i64 no) ∧ wz.rangeAt tb 0 r ∧ wz.cell? ⟨tb, 35, none⟩ = some (.int .i64 R) ∧ wz.cell? ⟨tb, 36, none⟩ = some (.int .i64 S) ∧ HeadW w tb r wz) : wz.drew.cell? ⟨tb, 0, none⟩ = some (.int .i64 st) ∧ wz.drew.cell? ⟨tb, 1, none⟩ = some (.int .i64 fo) ∧ wz.drew.cell? ⟨tb, 2, none⟩ = some (.int .i64 no) ∧ wz.drew.rangeAt tb 0 r ∧ wz.drew.cell? ⟨tb, 35, none⟩ = some (.int .i64 R) ∧ wz.drew.cell? ⟨tb, 36, none⟩ = some (.int .i64 S) ∧ HeadW w tb r wz.drew := HeadW.nextB hr (Below.refl _ wz).drew h
theorem HeadW.allocB (hr : HeadR st fo no R S D r) (h : wz.cell? ⟨tb, 0, none⟩ = some (.int .i64 st) ∧ wz.cell? ⟨tb, 1, none⟩ = some (.int .i64 fo) ∧ wz.cell? ⟨tb, 2, none⟩ = some (.int .i64 no) ∧ wz.rangeAt tb 0 r ∧ wz.cell? ⟨tb, 35, none⟩ = some (.int .i64 R) ∧ wz.cell? ⟨tb, 36, none⟩ = some (.int .i64 S) ∧ HeadW w tb r wz) (o : Obj) : (wz.alloc o).cell? ⟨tb, 0, none⟩ = some (.int .i64 st) ∧ (wz.alloc o).cell? ⟨tb, 1, none⟩ = some (.int .i64 fo) ∧ (wz.alloc o).cell? ⟨tb, 2, none⟩ = some (.int .i64 no) ∧ (wz.alloc o).rangeAt tb 0 r ∧ (wz.alloc o).cell? ⟨tb, 35, none⟩ = some (.int .i64 R) ∧ (wz.alloc o).cell? ⟨tb, 36, none⟩ = some (.int .i64 S) ∧ HeadW w tb r (wz.alloc o) := HeadW.nextB hr ((Below.refl _ wz).alloc (Nat.le_refl _) o) h
end
theorem HeadW.bl {w wz : World} {tb : Nat} {st fo no R S : Int} {r : List Value} (h : wz.cell? ⟨tb, 0, none⟩ = some (.int .i64 st) ∧ wz.cell? ⟨tb, 1, none⟩ = some (.int .i64 fo) ∧ wz.cell? ⟨tb, 2, none⟩ = some (.int .i64 no) ∧ wz.rangeAt tb 0 r ∧ wz.cell? ⟨tb, 35, none⟩ = some (.int .i64 R) ∧ wz.cell? ⟨tb, 36, none⟩ = some (.int .i64 S) ∧ HeadW w tb r wz) : Below w.heap.size w wz := h.2.2.2.2.2.2.2
theorem dig_bs {w : World} {mb : Nat} {M : List Nat} (hM : M.length = 32 ∧ ∀ u ∈ M, u < 256) (h : Blk w mb 32 (bv M)) : BS w (some ⟨mb, 0, none⟩) 32 32 M := by
 have := Blk.bs (pre := []) (post := []) (l := M) (c := 32) (by simpa using h) (by rw [hM.1]; omega) (by omega) hM.2
 rwa [hM.1] at this
theorem below_drewN' {B : Nat} {w w' : World} (h : Below B w w') (n : Nat) : Below B w (w'.drewN n) := ⟨h.os, h.tape, h.output, h.size, h.block⟩
theorem sizeH : (Tryz.prog.info? 36).map (·.size) = some 37 := by kernel_rfl

set_option maxRecDepth 20000 in
set_option maxHeartbeats 4000000 in
theorem sVerify_any (pub st fo no R S : Int) (D : List Nat) (hp : I64 pub) (hst : I64 st) (hfo : I64 fo) (hno : I64 no) (hR : I64 R) (hD : D.length = 32 ∧ ∀ u ∈ D, u < 256) (w : World) (HT : Tabs w) :
 Calls Tryz.prog 35 #[.int .i64 pub, .agg (headC st fo no D R S).toArray] w (RetBo (headB pub st fo no D R S) w) := by
 have HT' := Lib.hid HT
 obtain ⟨tb, htb⟩ : ∃ tb, Hid (w.heap.size = tb) := ⟨_, rfl⟩
 obtain ⟨r, hr⟩ : ∃ r, HeadR st fo no R S D r := ⟨_, rfl, hD.1⟩
 have hmsg := Lib.hid (fun W h => message_any st fo no R S D hst hfo hno hD W h)
 have hM : Hid ((headD st fo no D).length = 32 ∧ ∀ u ∈ headD st fo no D, u < 256) := ⟨Sha.tagged_length _ _, Sha.tagged_lt _ _⟩
 have hW := HeadW.mk' hr (show HeadW w tb r (w.alloc (.cells r.toArray 36)) from ⟨htb.out ▸ Blk.new w _ _, (Below.refl _ w).alloc (Nat.le_refl _) _⟩)
 have hone := hr.one
 have hfol := Lib.hid (fun W => isFolder_any fo W)
 have hri : (Tryz.prog.info? 36).map (·.size) = some r.length := by rw [hr.len]; exact sizeH
 have hu := Tryz.underlying36
 rw [hr.eq] at hmsg ⊢
 obtain ⟨v, hv⟩ : ∃ v, Hid (headB pub st fo no D R S = v) := ⟨_, rfl⟩
 rw [hv.out]
 unfold headB at hv
 obtain ⟨fb, hfb⟩ : ∃ fb, Hid (Sto.folderB fo = fb) := ⟨_, rfl⟩
 rw [hfb.out] at hfol hv
 have hver := Lib.hid (fun (R' S' : Int) (h : I64 R') W mb hT hB => Verify_any pub R' S' hp h (some ⟨mb, 0, none⟩) 32 32 (headD st fo no D) W hT hB (by omega))
 generalize headD st fo no D = M at *
 clear HT
 have fin : Hid (∀ W, HeadW w tb r W → v = false → RetBo v w (.returned (.bool false)) W) := fun W h e => ⟨by rw [e], h.2⟩
 have hcs : (v = false ∧ (decide (0 ≤ st) = false ∨ (decide (0 ≤ st) = true ∧ decide (st < 4) = false) ∨ (decide (0 ≤ st) = true ∧ decide (st < 4) = true ∧ fb = false) ∨ (decide (0 ≤ st) = true ∧ decide (st < 4) = true ∧ fb = true ∧ decide (0 ≤ no) = false) ∨ (decide (0 ≤ st) = true ∧ decide (st < 4) = true ∧ fb = true ∧ decide (0 ≤ no) = true ∧ decide (no ≤ 65536) = false)))
  ∨ (verB 4 pub M R S = v ∧ decide (0 ≤ st) = true ∧ decide (st < 4) = true ∧ fb = true ∧ decide (0 ≤ no) = true ∧ decide (no ≤ 65536) = true) := by
  have h := hv.out
  cases h1 : decide (0 ≤ st) <;> cases h2 : decide (st < 4) <;> cases fb <;> cases h3 : decide (0 ≤ no) <;> cases h4 : decide (no ≤ 65536) <;> simp [h1, h2, h3, h4] at h ⊢ <;> first | exact h | exact h.symm
 clear hv
 rcases hcs with ⟨rfl, h1 | ⟨h1, h2⟩ | ⟨h1, h2, rfl⟩ | ⟨h1, h2, rfl, h3⟩ | ⟨h1, h2, rfl, h3, h4⟩⟩ | ⟨hv, h1, h2, rfl, h3, h4⟩
 case inr =>
  have hver' := Lib.hid (fun W mb hT hB => hver.out R S hR W mb hT hB)
  rw [hv] at hver'
  have hM' := hM.out
  clear hver fin hv hp hst hfo hno hR hD hfb
  go_enter Tryz.func35, Tryz.ntmps35
  go_wp2_with fail
  rw [htb.out]
  generalize w.alloc (.cells r.toArray 36) = w1 at *
  clear hone
  refine wp_region_held_drew (S := fun wz => wz.cell? ⟨tb, 0, none⟩ = some (.int .i64 st) ∧ wz.cell? ⟨tb, 1, none⟩ = some (.int .i64 fo) ∧ wz.cell? ⟨tb, 2, none⟩ = some (.int .i64 no) ∧ wz.rangeAt tb 0 r ∧ wz.cell? ⟨tb, 35, none⟩ = some (.int .i64 R) ∧ wz.cell? ⟨tb, 36, none⟩ = some (.int .i64 S) ∧ HeadW w tb r wz) (by kernel_rfl) (HeadW.drewB hr hW) (fun hHeld => ?_)
  refine tk (i := 0) (oi := ⟨some 5, .fieldAddr 36 (.tmp 3) 0, 0, "store.go:220", #[], none⟩) (v := ?_) rfl (Or.inl ⟨by rfl, ?_⟩) hHeld ?_
  rotate_left
  · intro wz hSw
    (try dsimp only at hSw)
    go_simp
    all_goals (with_reducible rfl)
  try simp only [Act.put, sA, s0, s1]
  refine tk (i := 1) (oi := ⟨some 6, .load 3 (.tmp 5), 3, "store.go:220", #[⟨0, .data⟩], none⟩) (v := ?_) rfl (Or.inl ⟨by rfl, ?_⟩) hHeld ?_
  rotate_left
  · intro wz hSw
    (try dsimp only at hSw)
    go_simp
    all_goals (with_reducible rfl)
  try simp only [Act.put, sA, s0, s1]
  refine tk (i := 2) (oi := ⟨some 7, .binOp .geq 3 (.tmp 6) (.const (.int .i64 0)) 3, 4, "store.go:220", #[⟨1, .data⟩], none⟩) (v := ?_) rfl (Or.inl ⟨by rfl, ?_⟩) hHeld ?_
  rotate_left
  · intro wz hSw
    (try dsimp only at hSw)
    go_simp
    all_goals (with_reducible rfl)
  try simp only [Act.put, sA, s0, s1]
  refine tk (i := 3) (oi := ⟨some 8, .move (.tmp 7), 4, "store.go:220", #[⟨2, .data⟩], none⟩) (v := ?_) rfl (Or.inl ⟨by rfl, ?_⟩) hHeld ?_
  rotate_left
  · intro wz hSw
    (try dsimp only at hSw)
    go_simp
    all_goals (with_reducible rfl)
  try simp only [Act.put, sA, s0, s1]
  refine tk (i := 4) (oi := ⟨some 9, .fieldAddr 36 (.tmp 3) 0, 0, "store.go:220", #[⟨3, .guard⟩], some (3, true)⟩) (v := ?_) rfl (Or.inl ⟨by rfl, ?_⟩) hHeld ?_
  rotate_left
  · intro wz hSw
    (try dsimp only at hSw)
    go_simp
    all_goals (with_reducible rfl)
  try simp only [Act.put, sA, s0, s1]
  refine tk (i := 5) (oi := ⟨some 10, .load 3 (.tmp 9), 3, "store.go:220", #[⟨4, .data⟩, ⟨3, .guard⟩], some (3, true)⟩) (v := ?_) rfl (Or.inl ⟨by rfl, ?_⟩) hHeld ?_
  rotate_left
  · intro wz hSw
    (try dsimp only at hSw)
    go_simp
    all_goals (with_reducible rfl)
  try simp only [Act.put, sA, s0, s1]
  refine tk (i := 6) (oi := ⟨some 11, .binOp .lss 3 (.tmp 10) (.const (.int .i64 4)) 3, 4, "store.go:220", #[⟨5, .data⟩, ⟨3, .guard⟩], some (3, true)⟩) (v := ?_) rfl (Or.inl ⟨by rfl, ?_⟩) hHeld ?_
  rotate_left
  · intro wz hSw
    (try dsimp only at hSw)
    go_simp
    all_goals (with_reducible rfl)
  try simp only [Act.put, sA, s0, s1]
  refine tk (i := 7) (oi := ⟨some 12, .pick (.tmp 8) (.tmp 11) (.const (.bool false)), 4, "store.go:220", #[⟨3, .data⟩, ⟨6, .data⟩], none⟩) (v := ?_) rfl (Or.inl ⟨by rfl, ?_⟩) hHeld ?_
  rotate_left
  · intro wz hSw
    (try dsimp only at hSw)
    go_simp
    all_goals (with_reducible rfl)
  try simp only [Act.put, sA, s0, s1]
  refine tk (i := 8) (oi := ⟨some 13, .move (.tmp 12), 4, "store.go:220", #[⟨7, .data⟩, ⟨3, .chain⟩], none⟩) (v := ?_) rfl (Or.inl ⟨by rfl, ?_⟩) hHeld ?_
  rotate_left
  · intro wz hSw
    (try dsimp only at hSw)
    go_simp
    all_goals (with_reducible rfl)
  try simp only [Act.put, sA, s0, s1]
  refine tk (i := 9) (oi := ⟨some 14, .fieldAddr 36 (.tmp 3) 1, 0, "store.go:220", #[⟨8, .guard⟩], some (8, true)⟩) (v := ?_) rfl (Or.inl ⟨by rfl, ?_⟩) hHeld ?_
  rotate_left
  · intro wz hSw
    (try dsimp only at hSw)
    go_simp
    all_goals (with_reducible rfl)
  try simp only [Act.put, sA, s0, s1]
  refine tk (i := 10) (oi := ⟨some 15, .load 3 (.tmp 14), 3, "store.go:220", #[⟨9, .data⟩, ⟨8, .guard⟩], some (8, true)⟩) (v := ?_) rfl (Or.inl ⟨by rfl, ?_⟩) hHeld ?_
  rotate_left
  · intro wz hSw
    (try dsimp only at hSw)
    go_simp
    all_goals (with_reducible rfl)
  try simp only [Act.put, sA, s0, s1]
  refine rd (rs := [11]) ?_
  refine rc (o := ⟨some 16, .call { callee := .value (.func 68), args := #[.tmp 15], argTypes := #[3] }, 4, "store.go:220", #[⟨10, .data⟩, ⟨8, .chain⟩, ⟨8, .guard⟩], some (8, true)⟩) rfl (fun K hK => ?_) rn
  go_simp
  go_at_call 68
  refine (hfol.out _).mono ?_
  rintro e wq ⟨rfl, rfl⟩
  refine hK.out _ _ hHeld (fun hHeld => ?_)
  clear hK K
  try simp only [Act.put, sA, s0, s1]
  refine tk (i := 12) (oi := ⟨some 17, .pick (.tmp 13) (.tmp 16) (.const (.bool false)), 4, "store.go:220", #[⟨8, .data⟩, ⟨11, .data⟩], none⟩) (v := ?_) rfl (Or.inl ⟨by rfl, ?_⟩) hHeld ?_
  rotate_left
  · intro wz hSw
    (try dsimp only at hSw)
    go_simp
    all_goals (with_reducible rfl)
  try simp only [Act.put, sA, s0, s1]
  refine tk (i := 13) (oi := ⟨some 18, .move (.tmp 17), 4, "store.go:220", #[⟨12, .data⟩, ⟨11, .chain⟩], none⟩) (v := ?_) rfl (Or.inl ⟨by rfl, ?_⟩) hHeld ?_
  rotate_left
  · intro wz hSw
    (try dsimp only at hSw)
    go_simp
    all_goals (with_reducible rfl)
  try simp only [Act.put, sA, s0, s1]
  refine tk (i := 14) (oi := ⟨some 19, .fieldAddr 36 (.tmp 3) 2, 0, "store.go:220", #[⟨13, .guard⟩], some (13, true)⟩) (v := ?_) rfl (Or.inl ⟨by rfl, ?_⟩) hHeld ?_
  rotate_left
  · intro wz hSw
    (try dsimp only at hSw)
    go_simp
    all_goals (with_reducible rfl)
  try simp only [Act.put, sA, s0, s1]
  refine tk (i := 15) (oi := ⟨some 20, .load 3 (.tmp 19), 3, "store.go:220", #[⟨14, .data⟩, ⟨13, .guard⟩], some (13, true)⟩) (v := ?_) rfl (Or.inl ⟨by rfl, ?_⟩) hHeld ?_
  rotate_left
  · intro wz hSw
    (try dsimp only at hSw)
    go_simp
    all_goals (with_reducible rfl)
  try simp only [Act.put, sA, s0, s1]
  refine tk (i := 16) (oi := ⟨some 21, .binOp .geq 3 (.tmp 20) (.const (.int .i64 0)) 3, 4, "store.go:220", #[⟨15, .data⟩, ⟨13, .guard⟩], some (13, true)⟩) (v := ?_) rfl (Or.inl ⟨by rfl, ?_⟩) hHeld ?_
  rotate_left
  · intro wz hSw
    (try dsimp only at hSw)
    go_simp
    all_goals (with_reducible rfl)
  try simp only [Act.put, sA, s0, s1]
  refine tk (i := 17) (oi := ⟨some 22, .pick (.tmp 18) (.tmp 21) (.const (.bool false)), 4, "store.go:220", #[⟨13, .data⟩, ⟨16, .data⟩], none⟩) (v := ?_) rfl (Or.inl ⟨by rfl, ?_⟩) hHeld ?_
  rotate_left
  · intro wz hSw
    (try dsimp only at hSw)
    go_simp
    all_goals (with_reducible rfl)
  try simp only [Act.put, sA, s0, s1]
  refine tk (i := 18) (oi := ⟨some 23, .move (.tmp 22), 4, "store.go:220", #[⟨17, .data⟩, ⟨13, .chain⟩], none⟩) (v := ?_) rfl (Or.inl ⟨by rfl, ?_⟩) hHeld ?_
  rotate_left
  · intro wz hSw
    (try dsimp only at hSw)
    go_simp
    all_goals (with_reducible rfl)
  try simp only [Act.put, sA, s0, s1]
  refine tk (i := 19) (oi := ⟨some 24, .fieldAddr 36 (.tmp 3) 2, 0, "store.go:220", #[⟨18, .guard⟩], some (18, true)⟩) (v := ?_) rfl (Or.inl ⟨by rfl, ?_⟩) hHeld ?_
  rotate_left
  · intro wz hSw
    (try dsimp only at hSw)
    go_simp
    all_goals (with_reducible rfl)
  try simp only [Act.put, sA, s0, s1]
  refine tk (i := 20) (oi := ⟨some 25, .load 3 (.tmp 24), 3, "store.go:220", #[⟨19, .data⟩, ⟨18, .guard⟩], some (18, true)⟩) (v := ?_) rfl (Or.inl ⟨by rfl, ?_⟩) hHeld ?_
  rotate_left
  · intro wz hSw
    (try dsimp only at hSw)
    go_simp
    all_goals (with_reducible rfl)
  try simp only [Act.put, sA, s0, s1]
  refine tk (i := 21) (oi := ⟨some 26, .binOp .leq 3 (.tmp 25) (.const (.int .i64 65536)) 3, 4, "store.go:220", #[⟨20, .data⟩, ⟨18, .guard⟩], some (18, true)⟩) (v := ?_) rfl (Or.inl ⟨by rfl, ?_⟩) hHeld ?_
  rotate_left
  · intro wz hSw
    (try dsimp only at hSw)
    go_simp
    all_goals (with_reducible rfl)
  try simp only [Act.put, sA, s0, s1]
  refine tk (i := 22) (oi := ⟨some 27, .pick (.tmp 23) (.tmp 26) (.const (.bool false)), 4, "store.go:220", #[⟨18, .data⟩, ⟨21, .data⟩], none⟩) (v := ?_) rfl (Or.inl ⟨by rfl, ?_⟩) hHeld ?_
  rotate_left
  · intro wz hSw
    (try dsimp only at hSw)
    go_simp
    all_goals (with_reducible rfl)
  try simp only [Act.put, sA, s0, s1]
  refine tk (i := 23) (oi := ⟨some 28, .move (.tmp 27), 4, "store.go:220", #[⟨22, .data⟩, ⟨18, .chain⟩], none⟩) (v := ?_) rfl (Or.inl ⟨by rfl, ?_⟩) hHeld ?_
  rotate_left
  · intro wz hSw
    (try dsimp only at hSw)
    go_simp
    all_goals (with_reducible rfl)
  try simp only [Act.put, sA, s0, s1]
  refine tk (i := 24) (oi := ⟨some 29, .move (.tmp 0), 3, "store.go:220", #[⟨23, .guard⟩], some (23, true)⟩) (v := ?_) rfl (Or.inl ⟨by rfl, ?_⟩) hHeld ?_
  rotate_left
  · intro wz hSw
    (try dsimp only at hSw)
    go_simp
    all_goals (with_reducible rfl)
  try simp only [Act.put, sA, s0, s1]
  refine tk (i := 25) (oi := ⟨some 30, .load 36 (.tmp 3), 36, "store.go:220", #[⟨23, .guard⟩], some (23, true)⟩) rfl (yieldsIf_load_mid (by rfl) _ _ rfl tb 0 rfl r _ (fun _ h => h.2.2.2.1) hu rfl hri) hHeld ?_
  refine tk (i := 27) (oi := ⟨some 32, .fieldAddr 36 (.tmp 3) 4, 0, "store.go:220", #[⟨23, .guard⟩], some (23, true)⟩) (v := ?_) rfl (Or.inl ⟨by rfl, ?_⟩) hHeld ?_
  rotate_left
  · intro wz hSw
    (try dsimp only at hSw)
    go_simp
    all_goals (with_reducible rfl)
  try simp only [Act.put, sA, s0, s1]
  refine tk (i := 28) (oi := ⟨some 33, .load 34 (.tmp 32), 34, "store.go:220", #[⟨27, .data⟩, ⟨23, .guard⟩], some (23, true)⟩) (v := ?_) rfl (Or.inl ⟨by rfl, ?_⟩) hHeld ?_
  rotate_left
  · intro wz hSw
    (try dsimp only at hSw)
    go_simp
    all_goals (with_reducible rfl)
  try simp only [Act.put, sA, s0, s1]
  refine rd (rs := [26]) ?_
  refine rc (o := ⟨some 31, .call { callee := .value (.func 65), args := #[.tmp 30], argTypes := #[36] }, 76, "store.go:220", #[⟨25, .data⟩, ⟨23, .chain⟩, ⟨23, .guard⟩], some (23, true)⟩) rfl (fun K hK => ?_) rn
  go_simp
  go_at_call 65
  refine (hmsg.out _ (HT'.out.below (HeadW.bl hHeld))).mono ?_
  rintro e wq ⟨mb, rfl, hmb, hbq⟩
  have hsq := HeadW.nextB hr hbq hHeld
  have hbs := dig_bs hM' hmb
  refine hK.out _ _ hsq (fun hHeld => ?_)
  clear hK K
  try simp only [Act.put, sA, s0, s1]
  refine rd (rs := [29]) ?_
  refine rc (o := ⟨some 34, .call { callee := .value (.func 72), args := #[.tmp 29, .tmp 31, .tmp 33], argTypes := #[3, 76, 34] }, 4, "store.go:220", #[⟨24, .data⟩, ⟨26, .data⟩, ⟨28, .data⟩, ⟨26, .chain⟩, ⟨23, .guard⟩], some (23, true)⟩) rfl (fun K hK => ?_) rn
  go_simp
  go_at_call 72
  refine (hver'.out _ mb (HT'.out.below (HeadW.bl hsq)) hbs).mono ?_
  rintro e w9 ⟨rfl, hb9⟩
  have hsq2 := HeadW.nextB hr hb9 hHeld
  refine hK.out _ _ hsq2 (fun hHeld => ?_)
  clear hK K
  try simp only [Act.put, sA, s0, s1]
  refine tk (i := 30) (oi := ⟨some 35, .pick (.tmp 28) (.tmp 34) (.const (.bool false)), 4, "store.go:220", #[⟨23, .data⟩, ⟨29, .data⟩], none⟩) (v := ?_) rfl (Or.inl ⟨by rfl, ?_⟩) hHeld ?_
  rotate_left
  · intro wz hSw
    (try dsimp only at hSw)
    go_simp
    all_goals (with_reducible rfl)
  try simp only [Act.put, sA, s0, s1]
  refine tk (i := 31) (oi := ⟨some 4, .assign (.tmp 35), 4, "store.go:220", #[⟨30, .data⟩, ⟨29, .chain⟩, ⟨0, .phase⟩, ⟨1, .phase⟩, ⟨2, .phase⟩, ⟨3, .phase⟩, ⟨4, .phase⟩, ⟨5, .phase⟩, ⟨6, .phase⟩, ⟨7, .phase⟩, ⟨8, .phase⟩, ⟨9, .phase⟩, ⟨10, .phase⟩, ⟨11, .phase⟩, ⟨12, .phase⟩, ⟨13, .phase⟩, ⟨14, .phase⟩, ⟨15, .phase⟩, ⟨16, .phase⟩, ⟨17, .phase⟩, ⟨18, .phase⟩, ⟨19, .phase⟩, ⟨20, .phase⟩, ⟨21, .phase⟩, ⟨22, .phase⟩, ⟨23, .phase⟩, ⟨24, .phase⟩, ⟨25, .phase⟩, ⟨26, .phase⟩, ⟨27, .phase⟩, ⟨28, .phase⟩, ⟨29, .phase⟩, ⟨30, .phase⟩], none⟩) (v := ?_) rfl (Or.inl ⟨by rfl, ?_⟩) hHeld ?_
  rotate_left
  · intro wz hSw
    (try dsimp only at hSw)
    go_simp
    all_goals (with_reducible rfl)
  try simp only [Act.put, sA, s0, s1]
  refine wpAnyH_done (by kernel_rfl) ?_ _
  go_wp2_with fail
  go_ret
  exact ⟨rfl, HeadW.bl hsq2⟩
 all_goals
  clear hver hmsg
  go_enter Tryz.func35, Tryz.ntmps35
  go_wp2_with fail
  rw [htb.out]
  generalize w.alloc (.cells r.toArray 36) = w1 at *
  obtain ⟨c0, c1, c2, _, _, _, hHW⟩ := hW
  have hHW' := Lib.hid hHW
  clear hHW hone hri hu
  go_quiet (first | (go_at_call 68; exact Calls.quiet_of_same (hfol.out _)))
  go_wp2_with fail
  go_ret
  exact fin.out _ ⟨hHW'.out.1, below_drewN' hHW'.out.2 _⟩ trivial
end Go.Proofs.YtiionehcmoginaaGreatDoor
