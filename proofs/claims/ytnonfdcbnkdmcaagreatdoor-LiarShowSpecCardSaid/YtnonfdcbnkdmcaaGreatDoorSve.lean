/- store.Verify -/
import Derived.Test.YtnonfdcbnkdmcaaGreatDoorAl
import Derived.Test.YtnonfdcbnkdmcaaGreatDoorCoA
import Derived.Test.YtnonfdcbnkdmcaaGreatDoorFin
import Derived.Test.YtnonfdcbnkdmcaaGreatDoorSgn3
namespace Go.Proofs.YtnonfdcbnkdmcaaGreatDoor
open Go.RowKit Go.Mem

def headB (pub st fo no : Int) (D : List Nat) (R S : Int) : Bool := decide (0 ≤ st) && decide (st < 4) && Sto.folderB fo && decide (0 ≤ no) && decide (no ≤ 65536) && verB 4 pub (headD st fo no D) R S

def HeadW (w : World) (tb : Nat) (r : List Value) (wz : World) : Prop := Blk wz tb 36 r ∧ Below w.heap.size w wz
structure HeadR (st fo no R S : Int) (D : List Nat) (r : List Value) : Prop where
 eq : headC st fo no D R S = r
 dig : D.length = 32
theorem HeadR.len {st fo no R S : Int} {D : List Nat} {r : List Value} (h : HeadR st fo no R S D r) : r.length = 37 := by rw [← h.eq]; simp [headC, bv_length, h.dig]
theorem HeadR.at0 {st fo no R S : Int} {D : List Nat} {r : List Value} (h : HeadR st fo no R S D r) : r[0]? = some (.int .i64 st) ∧ r[1]? = some (.int .i64 fo) ∧ r[2]? = some (.int .i64 no) := by rw [← h.eq]; exact ⟨rfl, rfl, rfl⟩
theorem HeadR.at3 {st fo no R S : Int} {D : List Nat} {r : List Value} (h : HeadR st fo no R S D r) : r[35]? = some (.int .i64 R) ∧ r[36]? = some (.int .i64 S) := by
 rw [← h.eq]
 unfold headC
 have hd := h.dig
 constructor
 · rw [List.getElem?_append_right (by simp), List.getElem?_append_right (by simp [bv_length, hd])]
   simp [bv_length, hd]
 · rw [List.getElem?_append_right (by simp), List.getElem?_append_right (by simp [bv_length, hd])]
   simp [bv_length, hd]
theorem HeadR.one {st fo no R S : Int} {D : List Nat} {r : List Value} (h : HeadR st fo no R S D r) : ∀ u ∈ r, u.oneCell' = true := by
 rw [← h.eq]; unfold headC
 intro u hu
 rcases List.mem_append.1 hu with h | h
 · simp only [List.mem_cons, List.not_mem_nil, or_false] at h
   rcases h with rfl | rfl | rfl <;> rfl
 · rcases List.mem_append.1 h with h | h
   · exact bv_one D u h
   · simp only [List.mem_cons, List.not_mem_nil, or_false] at h
     rcases h with rfl | rfl <;> rfl
section
variable {w wz wq : World} {tb : Nat} {st fo no R S : Int} {D : List Nat} {r : List Value}
theorem HeadW.mk' (hr : HeadR st fo no R S D r) (h : HeadW w tb r wz) : wz.cell? ⟨tb, 0, none⟩ = some (.int .i64 st) ∧ wz.cell? ⟨tb, 1, none⟩ = some (.int .i64 fo) ∧ wz.cell? ⟨tb, 2, none⟩ = some (.int .i64 no) ∧ wz.rangeAt tb 0 r ∧ wz.cell? ⟨tb, 35, none⟩ = some (.int .i64 R) ∧ wz.cell? ⟨tb, 36, none⟩ = some (.int .i64 S) ∧ HeadW w tb r wz :=
 ⟨h.1.at_ hr.at0.1, h.1.at_ hr.at0.2.1, h.1.at_ hr.at0.2.2, h.1.range, h.1.at_ hr.at3.1, h.1.at_ hr.at3.2, h⟩
theorem HeadW.next (hb : Below wz.heap.size wz wq) (h : HeadW w tb r wz) : HeadW w tb r wq := ⟨h.1.below hb h.1.lt, h.2.trans (hb.mono h.2.size)⟩
theorem HeadW.nextB (hr : HeadR st fo no R S D r) (hb : Below wz.heap.size wz wq) (h : wz.cell? ⟨tb, 0, none⟩ = some (.int .i64 st) ∧ wz.cell? ⟨tb, 1, none⟩ = some (.int .i64 fo) ∧ wz.cell? ⟨tb, 2, none⟩ = some (.int .i64 no) ∧ wz.rangeAt tb 0 r ∧ wz.cell? ⟨tb, 35, none⟩ = some (.int .i64 R) ∧ wz.cell? ⟨tb, 36, none⟩ = some (.int .i64 S) ∧ HeadW w tb r wz) : wq.cell? ⟨tb, 0, none⟩ = some (.int .i64 st) ∧ wq.cell? ⟨tb, 1, none⟩ = some (.int .i64 fo) ∧ wq.cell? ⟨tb, 2, none⟩ = some (.int .i64 no) ∧ wq.rangeAt tb 0 r ∧ wq.cell? ⟨tb, 35, none⟩ = some (.int .i64 R) ∧ wq.cell? ⟨tb, 36, none⟩ = some (.int .i64 S) ∧ HeadW w tb r wq := (h.2.2.2.2.2.2.next hb).mk' hr
theorem HeadW.drewB (hr : HeadR st fo no R S D r) (h : wz.cell? ⟨tb, 0, none⟩ = some (.int .i64 st) ∧ wz.cell? ⟨tb, 1, none⟩ = some (.int .i64 fo) ∧ wz.cell? ⟨tb, 2, none⟩ = some (.int .i64 no) ∧ wz.rangeAt tb 0 r ∧ wz.cell? ⟨tb, 35, none⟩ = some (.int .i64 R) ∧ wz.cell? ⟨tb, 36, none⟩ = some (.int .i64 S) ∧ HeadW w tb r wz) : wz.drew.cell? ⟨tb, 0, none⟩ = some (.int .i64 st) ∧ wz.drew.cell? ⟨tb, 1, none⟩ = some (.int .i64 fo) ∧ wz.drew.cell? ⟨tb, 2, none⟩ = some (.int .i64 no) ∧ wz.drew.rangeAt tb 0 r ∧ wz.drew.cell? ⟨tb, 35, none⟩ = some (.int .i64 R) ∧ wz.drew.cell? ⟨tb, 36, none⟩ = some (.int .i64 S) ∧ HeadW w tb r wz.drew := HeadW.nextB hr (Below.refl _ wz).drew h
theorem HeadW.allocB (hr : HeadR st fo no R S D r) (h : wz.cell? ⟨tb, 0, none⟩ = some (.int .i64 st) ∧ wz.cell? ⟨tb, 1, none⟩ = some (.int .i64 fo) ∧ wz.cell? ⟨tb, 2, none⟩ = some (.int .i64 no) ∧ wz.rangeAt tb 0 r ∧ wz.cell? ⟨tb, 35, none⟩ = some (.int .i64 R) ∧ wz.cell? ⟨tb, 36, none⟩ = some (.int .i64 S) ∧ HeadW w tb r wz) (o : Obj) : (wz.alloc o).cell? ⟨tb, 0, none⟩ = some (.int .i64 st) ∧ (wz.alloc o).cell? ⟨tb, 1, none⟩ = some (.int .i64 fo) ∧ (wz.alloc o).cell? ⟨tb, 2, none⟩ = some (.int .i64 no) ∧ (wz.alloc o).rangeAt tb 0 r ∧ (wz.alloc o).cell? ⟨tb, 35, none⟩ = some (.int .i64 R) ∧ (wz.alloc o).cell? ⟨tb, 36, none⟩ = some (.int .i64 S) ∧ HeadW w tb r (wz.alloc o) := HeadW.nextB hr ((Below.refl _ wz).alloc (Nat.le_refl _) o) h
end
theorem dig_bs {w : World} {mb : Nat} {M : List Nat} (hM : M.length = 32 ∧ ∀ u ∈ M, u < 256) (h : Blk w mb 32 (bv M)) : BS w (some ⟨mb, 0, none⟩) 32 32 M := by
 have := Blk.bs (pre := []) (post := []) (l := M) (c := 32) (by simpa using h) (by rw [hM.1]; omega) (by omega) hM.2
 rwa [hM.1] at this
theorem sizeH : (Tryz.prog.info? 36).map (·.size) = some 37 := by kernel_rfl

end Go.Proofs.YtnonfdcbnkdmcaaGreatDoor

