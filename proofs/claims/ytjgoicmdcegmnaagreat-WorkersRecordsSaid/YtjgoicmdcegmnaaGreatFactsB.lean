/- Closed facts of the row of WorkersRecords: recursion, variables. -/
import Derived.Test.YtjgoicmdcegmnaaGreatRows
import Derived.JoinedOf
import Derived.OpenShut

set_option linter.unusedVariables false
set_option linter.unusedSimpArgs false

/- Closed facts of the row: recursion, variables. -/
namespace Go.Proofs.YtjgoicmdcegmnaaGreat.workersRecords

set_option maxRecDepth 100000 in
theorem factRecurses : Tryz.prog.recurses 3 = true := by kernel_rfl

set_option maxRecDepth 100000 in
theorem factNamed : Tryz.prog.varsNamed 3 = [] := by kernel_rfl

end Go.Proofs.YtjgoicmdcegmnaaGreat.workersRecords
