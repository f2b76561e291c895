/-
  A PART OF THE PROOF of RtI (texts RtG): the claim itself stands in the last text. No conditions beside those of the given row.
-/
import Derived.Test.YteedodijgpinnaaGreatDoorRtF
set_option linter.unusedVariables false
set_option linter.unnecessarySimpa false
set_option linter.unusedSimpArgs false
namespace Go.Proofs.YteedodijgpinnaaGreatDoor
set_option maxRecDepth 100000
theorem rt_joined : joinedFacts Tryz.prog 4 Tryz.f4 Rows.fnRootedSpec Rows.fnRootedRow = true := by kernel_rfl
end Go.Proofs.YteedodijgpinnaaGreatDoor
