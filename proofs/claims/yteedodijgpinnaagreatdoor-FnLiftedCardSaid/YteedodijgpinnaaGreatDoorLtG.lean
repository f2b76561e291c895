/-
  A PART OF THE PROOF of LtI (texts LtG): the claim itself stands in the last text. No conditions beside those of the given row.
-/
import Derived.Test.YteedodijgpinnaaGreatDoorLtF
set_option linter.unusedVariables false
set_option linter.unnecessarySimpa false
set_option linter.unusedSimpArgs false
namespace Go.Proofs.YteedodijgpinnaaGreatDoor
set_option maxRecDepth 100000
theorem lt_joined : joinedFacts Tryz.prog 6 Tryz.f6 Rows.fnLiftedSpec Rows.fnLiftedRow = true := by kernel_rfl
end Go.Proofs.YteedodijgpinnaaGreatDoor
