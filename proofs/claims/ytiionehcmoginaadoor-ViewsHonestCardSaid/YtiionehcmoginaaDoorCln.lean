/- slices.Clone at []api.Entry and []api.Log -/
import Derived.Test.YtiionehcmoginaaDoorRow
import Derived.Test.YtiionehcmoginaaDoorChecked
import Derived.WalkKit
import Derived.WalkLawsBesides
import Derived.WalkSpells
import Derived.Lib.Hide
import Derived.Lib.SliceRun
namespace Go.Proofs.YtiionehcmoginaaDoor
open Go.RowKit Go.Mem

theorem infoE : (Tryd.prog.info? 73).map (fun i => (i.zero, i.size, i.bytes)) = some (some (.agg #[.int .i64 0, .int .u8 0, .int .u8 0, .int .u8 0, .int .u8 0, .int .u8 0, .int .u8 0, .int .u8 0, .int .u8 0, .int .u8 0, .int .u8 0, .int .u8 0, .int .u8 0, .int .u8 0, .int .u8 0, .int .u8 0, .int .u8 0, .int .u8 0, .int .u8 0, .int .u8 0, .int .u8 0, .int .u8 0, .int .u8 0, .int .u8 0, .int .u8 0, .int .u8 0, .int .u8 0, .int .u8 0, .int .u8 0, .int .u8 0, .int .u8 0, .int .u8 0, .int .u8 0, .slice none 0 0, .bool false]), 35, 72) := by kernel_rfl
theorem sizeE : (Tryd.prog.info? 73).map (·.size) = some 35 := by kernel_rfl

theorem infoL : (Tryd.prog.info? 137).map (fun i => (i.zero, i.size, i.bytes)) = some (some (.agg #[.int .i64 0, .slice none 0 0]), 2, 32) := by kernel_rfl
theorem sizeL : (Tryd.prog.info? 137).map (·.size) = some 2 := by kernel_rfl

end Go.Proofs.YtiionehcmoginaaDoor
