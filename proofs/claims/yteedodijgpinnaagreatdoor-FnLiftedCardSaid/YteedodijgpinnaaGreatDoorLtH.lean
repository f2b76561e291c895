/-
  A PART OF THE PROOF of LtI (texts LtH): the claim itself stands in the last text. No conditions beside those of the given row.
-/
import Derived.Test.YteedodijgpinnaaGreatDoorLtG
set_option linter.unusedVariables false
set_option linter.unnecessarySimpa false
set_option linter.unusedSimpArgs false
namespace Go.Proofs.YteedodijgpinnaaGreatDoor
set_option maxRecDepth 100000
theorem lt_wrap : Tryz.f6.isWrapper Tryz.prog Rows.fnLiftedRow.wrapper Rows.fnLiftedRow.mainSum := by
  unfold Func.isWrapper; first | (rw [if_pos (by decide +kernel)]; kernel_rfl) | (rw [if_neg (by decide +kernel)]; exact ⟨rfl, rfl⟩)
theorem lt_inst : Tryz.f6.isInstance Tryz.prog Rows.fnLiftedRow.origin Rows.fnLiftedRow.targs := of_decide_eq_true (by kernel_rfl)
theorem lt_named : Tryz.prog.funcNamed Rows.fnLiftedRow.func = some 6 := by kernel_rfl
theorem lt_said (hO : Go.Abs.OrcOK Go.Abs.NN Tryz.prog 6 Go.Abs.lawO1) : Rows.FnLiftedSaid :=
  OpenClaim.holds_of_wide 6 Tryz.f6 rfl rfl rfl rfl rfl rfl rfl ⟨rfl, rfl, rfl, rfl, rfl⟩ rfl rfl rfl rfl rfl lt_named Tryz.func6 lt_joined
    lt_inst lt_wrap (fun os started H enc _ => lt_lifted hO os started H enc)
end Go.Proofs.YteedodijgpinnaaGreatDoor
