/- slices.Insert at []api.Log -/
import Derived.Test.YtiionehcmoginaaDoorCln
import Derived.Deep.QuietTactic
import Derived.BigQuiet
namespace Go.Proofs.YtiionehcmoginaaDoor
open Go.RowKit Go.Mem

end Go.Proofs.YtiionehcmoginaaDoor
