/-
  A PART OF THE PROOF of NrI (texts NrH): the claim itself stands in the last text. No conditions beside those of the given row.
-/
import Derived.Test.YteedodijgpinnaaGreatDoorNrG
set_option linter.unusedVariables false
set_option linter.unnecessarySimpa false
set_option linter.unusedSimpArgs false
namespace Go.Proofs.YteedodijgpinnaaGreatDoor
set_option maxRecDepth 100000
theorem nr_wrap : Tryz.f7.isWrapper Tryz.prog Rows.fnNearestRow.wrapper Rows.fnNearestRow.mainSum := by
  unfold Func.isWrapper; first | (rw [if_pos (by decide +kernel)]; kernel_rfl) | (rw [if_neg (by decide +kernel)]; exact ⟨rfl, rfl⟩)
theorem nr_inst : Tryz.f7.isInstance Tryz.prog Rows.fnNearestRow.origin Rows.fnNearestRow.targs := of_decide_eq_true (by kernel_rfl)
theorem nr_named : Tryz.prog.funcNamed Rows.fnNearestRow.func = some 7 := by kernel_rfl
theorem nr_said (hO : Go.Abs.OrcOK Go.Abs.NN Tryz.prog 7 Go.Abs.lawO1) : Rows.FnNearestSaid :=
  OpenClaim.holds_of_wide 7 Tryz.f7 rfl rfl rfl rfl rfl rfl rfl ⟨rfl, rfl, rfl, rfl, rfl⟩ rfl rfl rfl rfl rfl nr_named Tryz.func7 nr_joined
    nr_inst nr_wrap (fun os started H enc _ => nr_lifted hO os started H enc)
end Go.Proofs.YteedodijgpinnaaGreatDoor
