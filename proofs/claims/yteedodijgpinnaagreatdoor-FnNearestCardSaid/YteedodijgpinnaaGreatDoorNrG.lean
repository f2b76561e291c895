/-
  A PART OF THE PROOF of NrI (texts NrG): the claim itself stands in the last text. No conditions beside those of the given row.
-/
import Derived.Test.YteedodijgpinnaaGreatDoorNrF
set_option linter.unusedVariables false
set_option linter.unnecessarySimpa false
set_option linter.unusedSimpArgs false
namespace Go.Proofs.YteedodijgpinnaaGreatDoor
set_option maxRecDepth 100000
theorem nr_joined : joinedFacts Tryz.prog 7 Tryz.f7 Rows.fnNearestSpec Rows.fnNearestRow = true := by kernel_rfl
end Go.Proofs.YteedodijgpinnaaGreatDoor
