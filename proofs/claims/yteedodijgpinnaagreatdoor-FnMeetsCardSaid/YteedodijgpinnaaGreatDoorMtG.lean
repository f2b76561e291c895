/-
  A PART OF THE PROOF of MtI (texts MtG): the claim itself stands in the last text. No conditions beside those of the given row.
-/
import Derived.Test.YteedodijgpinnaaGreatDoorMtF
set_option linter.unusedVariables false
set_option linter.unnecessarySimpa false
set_option linter.unusedSimpArgs false
namespace Go.Proofs.YteedodijgpinnaaGreatDoor
set_option maxRecDepth 100000
theorem mt_joined : joinedFacts Tryz.prog 8 Tryz.f8 Rows.fnMeetsSpec Rows.fnMeetsRow = true := by kernel_rfl
end Go.Proofs.YteedodijgpinnaaGreatDoor
