/-
  A PART OF THE PROOF of TdI (texts TdG): the claim itself stands in the last text. No conditions beside those of the given row.
-/
import Derived.Test.YtjefeldkonejcaaGreatDoorTdF
set_option linter.unusedVariables false
set_option linter.unnecessarySimpa false
set_option linter.unusedSimpArgs false
namespace Go.Proofs.YtjefeldkonejcaaGreatDoor
set_option maxRecDepth 100000
theorem td_joined : joinedFacts Tryz.prog 3 Tryz.f3 Rows.fnToldSpec Rows.fnToldRow = true := by kernel_rfl
end Go.Proofs.YtjefeldkonejcaaGreatDoor
