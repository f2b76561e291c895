/-
  A PART OF THE PROOF of FtI (texts FtH): the claim itself stands in the last text. No conditions beside those of the given row.
-/
import Derived.Test.YteedodijgpinnaaGreatDoorFtG
set_option linter.unusedVariables false
set_option linter.unnecessarySimpa false
set_option linter.unusedSimpArgs false
namespace Go.Proofs.YteedodijgpinnaaGreatDoor
set_option maxRecDepth 100000
theorem ft_wrap : Tryz.f9.isWrapper Tryz.prog Rows.fnFeetRow.wrapper Rows.fnFeetRow.mainSum := by
  unfold Func.isWrapper; first | (rw [if_pos (by decide +kernel)]; kernel_rfl) | (rw [if_neg (by decide +kernel)]; exact ⟨rfl, rfl⟩)
theorem ft_inst : Tryz.f9.isInstance Tryz.prog Rows.fnFeetRow.origin Rows.fnFeetRow.targs := of_decide_eq_true (by kernel_rfl)
theorem ft_named : Tryz.prog.funcNamed Rows.fnFeetRow.func = some 9 := by kernel_rfl
theorem ft_said (hO : Go.Abs.OrcOK Go.Abs.NN Tryz.prog 9 Go.Abs.lawO1) : Rows.FnFeetSaid :=
  OpenClaim.holds_of_wide 9 Tryz.f9 rfl rfl rfl rfl rfl rfl rfl ⟨rfl, rfl, rfl, rfl, rfl⟩ rfl rfl rfl rfl rfl ft_named Tryz.func9 ft_joined
    ft_inst ft_wrap (fun os started H enc _ => ft_lifted hO os started H enc)
end Go.Proofs.YteedodijgpinnaaGreatDoor
