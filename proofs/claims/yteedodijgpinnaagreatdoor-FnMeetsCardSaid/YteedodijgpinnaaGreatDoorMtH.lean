/-
  A PART OF THE PROOF of MtI (texts MtH): the claim itself stands in the last text. No conditions beside those of the given row.
-/
import Derived.Test.YteedodijgpinnaaGreatDoorMtG
set_option linter.unusedVariables false
set_option linter.unnecessarySimpa false
set_option linter.unusedSimpArgs false
namespace Go.Proofs.YteedodijgpinnaaGreatDoor
set_option maxRecDepth 100000
theorem mt_wrap : Tryz.f8.isWrapper Tryz.prog Rows.fnMeetsRow.wrapper Rows.fnMeetsRow.mainSum := by
  unfold Func.isWrapper; first | (rw [if_pos (by decide +kernel)]; kernel_rfl) | (rw [if_neg (by decide +kernel)]; exact ⟨rfl, rfl⟩)
theorem mt_inst : Tryz.f8.isInstance Tryz.prog Rows.fnMeetsRow.origin Rows.fnMeetsRow.targs := of_decide_eq_true (by kernel_rfl)
theorem mt_named : Tryz.prog.funcNamed Rows.fnMeetsRow.func = some 8 := by kernel_rfl
theorem mt_said (hO : Go.Abs.OrcOK Go.Abs.NN Tryz.prog 8 Go.Abs.lawO1) : Rows.FnMeetsSaid :=
  OpenClaim.holds_of_wide 8 Tryz.f8 rfl rfl rfl rfl rfl rfl rfl ⟨rfl, rfl, rfl, rfl, rfl⟩ rfl rfl rfl rfl rfl mt_named Tryz.func8 mt_joined
    mt_inst mt_wrap (fun os started H enc _ => mt_lifted hO os started H enc)
end Go.Proofs.YteedodijgpinnaaGreatDoor
