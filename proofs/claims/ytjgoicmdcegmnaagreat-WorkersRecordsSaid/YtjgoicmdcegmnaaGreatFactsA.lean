/- Closed facts of the row of WorkersRecords: what stands in place, what is not followed. -/
import Derived.Test.YtjgoicmdcegmnaaGreatRows
import Derived.JoinedOf
import Derived.OpenShut

set_option linter.unusedVariables false
set_option linter.unusedSimpArgs false

/- Closed facts of the row: what stands in place, what is not followed. -/
namespace Go.Proofs.YtjgoicmdcegmnaaGreat.workersRecords

set_option maxRecDepth 100000 in
theorem factInPlace : Tryz.prog.inPlace 3 = ["slices.overlaps[int]", "slices.overlaps[parole/api.Finding]", "slices.overlaps[parole/api.Pair]", "slices.overlaps[parole/api.Proof]"] := by kernel_rfl

set_option maxRecDepth 100000 in
theorem factUnfollowed : Tryz.prog.unfollowed 3 = true := by kernel_rfl

end Go.Proofs.YtjgoicmdcegmnaaGreat.workersRecords
