/-
  A PART OF THE PROOF of TdI (texts TdH): the claim itself stands in the last text. No conditions beside those of the given row.
-/
import Derived.Test.YtjefeldkonejcaaGreatDoorTdG
set_option linter.unusedVariables false
set_option linter.unnecessarySimpa false
set_option linter.unusedSimpArgs false
namespace Go.Proofs.YtjefeldkonejcaaGreatDoor
set_option maxRecDepth 100000
theorem td_wrap : Tryz.f3.isWrapper Tryz.prog Rows.fnToldRow.wrapper Rows.fnToldRow.mainSum := by
  unfold Func.isWrapper; first | (rw [if_pos (by decide +kernel)]; kernel_rfl) | (rw [if_neg (by decide +kernel)]; exact ⟨rfl, rfl⟩)
theorem td_inst : Tryz.f3.isInstance Tryz.prog Rows.fnToldRow.origin Rows.fnToldRow.targs := of_decide_eq_true (by kernel_rfl)
theorem td_named : Tryz.prog.funcNamed Rows.fnToldRow.func = some 3 := by kernel_rfl
theorem td_said (hO : Go.Abs.OrcOK Go.Abs.NN Tryz.prog 3 Go.Abs.lawO1) : Rows.FnToldSaid :=
  OpenClaim.holds_of_wide 3 Tryz.f3 rfl rfl rfl rfl rfl rfl rfl ⟨rfl, rfl, rfl, rfl, rfl⟩ rfl rfl rfl rfl rfl td_named Tryz.func3 td_joined
    td_inst td_wrap (fun os started H enc _ => td_lifted hO os started H enc)
end Go.Proofs.YtjefeldkonejcaaGreatDoor
