/-
  A PART OF THE PROOF of RowI (texts RowG): the claim itself stands in the last text. No conditions beside those of the given row.
-/
import Derived.Test.YteedodijgpinnaaGreatDoorRowF
set_option linter.unusedVariables false
set_option linter.unnecessarySimpa false
set_option linter.unusedSimpArgs false
/-
  THE CLOSED FACTS of FnFractions' row.
-/
namespace Go.Proofs.YteedodijgpinnaaGreatDoor
set_option maxRecDepth 100000
theorem fr_joined : joinedFacts Tryz.prog 3 Tryz.f3 Rows.fnFractionsSpec Rows.fnFractionsRow = true := by kernel_rfl
end Go.Proofs.YteedodijgpinnaaGreatDoor
