/-
  A PART OF THE PROOF of RowI (texts RowH): the claim itself stands in the last text. No conditions beside those of the given row.
-/
import Derived.Test.YteedodijgpinnaaGreatDoorRowG
set_option linter.unusedVariables false
set_option linter.unnecessarySimpa false
set_option linter.unusedSimpArgs false
/-
  THE ROW of FnFractions.
-/
namespace Go.Proofs.YteedodijgpinnaaGreatDoor
set_option maxRecDepth 100000
theorem fr_wrap : Tryz.f3.isWrapper Tryz.prog Rows.fnFractionsRow.wrapper Rows.fnFractionsRow.mainSum := by
  unfold Func.isWrapper; first | (rw [if_pos (by decide +kernel)]; kernel_rfl) | (rw [if_neg (by decide +kernel)]; exact ⟨rfl, rfl⟩)
theorem fr_inst : Tryz.f3.isInstance Tryz.prog Rows.fnFractionsRow.origin Rows.fnFractionsRow.targs := of_decide_eq_true (by kernel_rfl)
theorem fr_named : Tryz.prog.funcNamed Rows.fnFractionsRow.func = some 3 := by kernel_rfl
theorem fr_said (hO : Go.Abs.OrcOK Go.Abs.NN Tryz.prog 3 Go.Abs.lawO2) : Rows.FnFractionsSaid :=
  OpenClaim.holds_of_wide 3 Tryz.f3 rfl rfl rfl rfl rfl rfl rfl ⟨rfl, rfl, rfl, rfl, rfl⟩ rfl rfl rfl rfl rfl fr_named Tryz.func3 fr_joined
    fr_inst fr_wrap (fun os started H enc _ => fr_lifted hO os started H enc)
end Go.Proofs.YteedodijgpinnaaGreatDoor
