/-
  A PART OF THE PROOF of FtI (texts FtG): the claim itself stands in the last text. No conditions beside those of the given row.
-/
import Derived.Test.YteedodijgpinnaaGreatDoorFtF
set_option linter.unusedVariables false
set_option linter.unnecessarySimpa false
set_option linter.unusedSimpArgs false
namespace Go.Proofs.YteedodijgpinnaaGreatDoor
set_option maxRecDepth 100000
theorem ft_joined : joinedFacts Tryz.prog 9 Tryz.f9 Rows.fnFeetSpec Rows.fnFeetRow = true := by kernel_rfl
end Go.Proofs.YteedodijgpinnaaGreatDoor
