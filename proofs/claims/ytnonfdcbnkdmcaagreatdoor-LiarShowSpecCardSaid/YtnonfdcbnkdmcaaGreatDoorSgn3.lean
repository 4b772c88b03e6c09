/- [3]api.Errno compared with its zero sign.Verify -/
import Derived.Test.YtnonfdcbnkdmcaaGreatDoorSgn2
import Derived.Deep.DeepCutAuto
namespace Go.Proofs.YtnonfdcbnkdmcaaGreatDoor
open Go.RowKit Go.Mem

end Go.Proofs.YtnonfdcbnkdmcaaGreatDoor
namespace Go.Proofs.YtnonfdcbnkdmcaaGreatDoor
open Go.RowKit Go.Mem

def verB (b pub : Int) (msg : List Nat) (R S : Int) : Bool :=
 if Grp.chk pub = 0 ∧ Grp.chk R = 0 ∧ Fld.chk S = 0 then decide (pubB b S = (Grp.mul R (Grp.exp pub (signH msg R pub)).1).1) else false

def RetBo (v : Bool) (w : World) (e : Ending) (w' : World) : Prop := e = .returned (.bool v) ∧ Below w.heap.size w w'

def VerW (w : World) (tb : Nat) (R S : Int) (wz : World) : Prop := Blk wz tb 34 [.int .i64 R, .int .i64 S] ∧ Below w.heap.size w wz
section
variable {w wz wq : World} {tb : Nat} {R S : Int}
theorem VerW.next (hb : Below wz.heap.size wz wq) (h : VerW w tb R S wz) : VerW w tb R S wq := ⟨h.1.below hb h.1.lt, h.2.trans (hb.mono h.2.size)⟩
theorem VerW.both (h : VerW w tb R S wz) : wz.cell? ⟨tb, 0, none⟩ = some (.int .i64 R) ∧ wz.cell? ⟨tb, 1, none⟩ = some (.int .i64 S) ∧ VerW w tb R S wz := ⟨h.1.at_ (i := 0) rfl, h.1.at_ (i := 1) rfl, h⟩
theorem VerW.nextB (hb : Below wz.heap.size wz wq) (h : wz.cell? ⟨tb, 0, none⟩ = some (.int .i64 R) ∧ wz.cell? ⟨tb, 1, none⟩ = some (.int .i64 S) ∧ VerW w tb R S wz) : wq.cell? ⟨tb, 0, none⟩ = some (.int .i64 R) ∧ wq.cell? ⟨tb, 1, none⟩ = some (.int .i64 S) ∧ VerW w tb R S wq := (h.2.2.next hb).both
theorem VerW.drewB (h : wz.cell? ⟨tb, 0, none⟩ = some (.int .i64 R) ∧ wz.cell? ⟨tb, 1, none⟩ = some (.int .i64 S) ∧ VerW w tb R S wz) : wz.drew.cell? ⟨tb, 0, none⟩ = some (.int .i64 R) ∧ wz.drew.cell? ⟨tb, 1, none⟩ = some (.int .i64 S) ∧ VerW w tb R S wz.drew := VerW.both ⟨h.2.2.1, h.2.2.2.drew⟩
theorem VerW.allocB (h : wz.cell? ⟨tb, 0, none⟩ = some (.int .i64 R) ∧ wz.cell? ⟨tb, 1, none⟩ = some (.int .i64 S) ∧ VerW w tb R S wz) (o : Obj) : (wz.alloc o).cell? ⟨tb, 0, none⟩ = some (.int .i64 R) ∧ (wz.alloc o).cell? ⟨tb, 1, none⟩ = some (.int .i64 S) ∧ VerW w tb R S (wz.alloc o) := (h.2.2.next ((Below.refl _ _).alloc (Nat.le_refl _) o)).both
theorem VerW.set (h : VerW w tb R S wz) {p : Addr} (hp : tb < p.block) (hw : w.heap.size ≤ tb) (u : Value) : VerW w tb R S (wz.setCell p u) := ⟨h.1.far (by omega) u, h.2.setCell (by omega) u⟩
end

theorem VerW.lt3 {w wz : World} {tb : Nat} {R S : Int} (h : wz.cell? ⟨tb, 0, none⟩ = some (.int .i64 R) ∧ wz.cell? ⟨tb, 1, none⟩ = some (.int .i64 S) ∧ VerW w tb R S wz) : tb < wz.heap.size := h.2.2.1.lt
theorem VerW.of {w wz : World} {tb : Nat} {R S : Int} (h : wz.cell? ⟨tb, 0, none⟩ = some (.int .i64 R) ∧ wz.cell? ⟨tb, 1, none⟩ = some (.int .i64 S) ∧ VerW w tb R S wz) : VerW w tb R S wz := h.2.2
end Go.Proofs.YtnonfdcbnkdmcaaGreatDoor

