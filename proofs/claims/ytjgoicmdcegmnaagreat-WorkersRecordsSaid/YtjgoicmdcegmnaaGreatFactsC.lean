/- Closed facts of the row of WorkersRecords: all of them together. -/
import Derived.Test.YtjgoicmdcegmnaaGreatFactsA
import Derived.Test.YtjgoicmdcegmnaaGreatFactsB

set_option linter.unusedVariables false
set_option linter.unusedSimpArgs false

/- Closed facts of the row: all of them together. -/
namespace Go.Proofs.YtjgoicmdcegmnaaGreat.workersRecords

set_option maxRecDepth 100000 in
theorem factsAll : joinedFacts Tryz.prog 3 Tryz.f3 Rows.workersRecordsSpec Rows.workersRecordsRow = true := by
  unfold joinedFacts
  rw [factInPlace, factUnfollowed, factRecurses, factNamed]
  kernel_rfl

theorem factInst : Tryz.f3.isInstance Tryz.prog Rows.workersRecordsRow.origin Rows.workersRecordsRow.targs := of_decide_eq_true (by kernel_rfl)

theorem factWrap : Tryz.f3.isWrapper Tryz.prog Rows.workersRecordsRow.wrapper Rows.workersRecordsRow.mainSum := by
  unfold Func.isWrapper
  first | (rw [if_pos (by decide +kernel)]; kernel_rfl) | (rw [if_neg (by decide +kernel)]; exact ⟨rfl, rfl⟩)

theorem factName : Tryz.prog.funcNamed Rows.workersRecordsRow.func = some 3 := by kernel_rfl

end Go.Proofs.YtjgoicmdcegmnaaGreat.workersRecords
