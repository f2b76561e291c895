/-
  A PART OF THE PROOF of AbI (texts AbG): the claim itself stands in the last text. No conditions beside those of the given row.
-/
import Derived.Test.YtjefeldkonejcaaGreatDoorAbF
set_option linter.unusedVariables false
set_option linter.unnecessarySimpa false
set_option linter.unusedSimpArgs false
namespace Go.Proofs.YtjefeldkonejcaaGreatDoor
set_option maxRecDepth 100000
theorem ab_joined : joinedFacts Tryz.prog 4 Tryz.f4 Rows.fnFirstAboveSpec Rows.fnFirstAboveRow = true := by kernel_rfl
end Go.Proofs.YtjefeldkonejcaaGreatDoor
