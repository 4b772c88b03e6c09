/- [3]api.Errno compared with its zero -/
import Derived.Test.YthhblcbnnmoojaaGreatDoorSgn2
namespace Go.Proofs.YthhblcbnnmoojaaGreatDoor
open Go.RowKit Go.Mem

theorem eq3 (a b c : Int) (ha : a = 0 ∨ a = 40) (hb : b = 0 ∨ b = 40) (hc : c = 0 ∨ c = 1) (w : World) : (Op.equalIn 10000 131 (.agg #[.int .i64 a, .int .i64 b, .int .i64 c]) (.agg #[.int .i64 0, .int .i64 0, .int .i64 0])).run Tryz.prog w = .ok (decide (a = 0 ∧ b = 0 ∧ c = 0)) w := by
  rcases ha with rfl | rfl <;> rcases hb with rfl | rfl <;> rcases hc with rfl | rfl <;> (show _ = _; kernel_rfl)
theorem fchk_cases (a : Int) : Fld.chk a = 0 ∨ Fld.chk a = 1 := by unfold Fld.chk; split <;> simp
end Go.Proofs.YthhblcbnnmoojaaGreatDoor
