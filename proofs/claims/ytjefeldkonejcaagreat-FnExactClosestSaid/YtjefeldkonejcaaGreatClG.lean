/-
 A PART OF THE PROOF of ClI (texts ClG): the claim itself stands in the last text. No conditions beside those of the given row.
-/
import Derived.Test.YtjefeldkonejcaaGreatClF
set_option linter.unusedVariables false
set_option linter.unnecessarySimpa false
set_option linter.unusedSimpArgs false
namespace Go.Proofs.YtjefeldkonejcaaGreat
set_option maxRecDepth 100000
theorem cl_joined:joinedFacts Tryz.prog 3 Tryz.f3 Rows.fnExactClosestSpec Rows.fnExactClosestRow=true:=by kernel_rfl
end Go.Proofs.YtjefeldkonejcaaGreat
