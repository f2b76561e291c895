/-
  A PART OF THE PROOF of RtI (texts RtH): the claim itself stands in the last text. No conditions beside those of the given row.
-/
import Derived.Test.YteedodijgpinnaaGreatDoorRtG
set_option linter.unusedVariables false
set_option linter.unnecessarySimpa false
set_option linter.unusedSimpArgs false
namespace Go.Proofs.YteedodijgpinnaaGreatDoor
set_option maxRecDepth 100000
theorem rt_wrap : Tryz.f4.isWrapper Tryz.prog Rows.fnRootedRow.wrapper Rows.fnRootedRow.mainSum := by
  unfold Func.isWrapper; first | (rw [if_pos (by decide +kernel)]; kernel_rfl) | (rw [if_neg (by decide +kernel)]; exact ⟨rfl, rfl⟩)
theorem rt_inst : Tryz.f4.isInstance Tryz.prog Rows.fnRootedRow.origin Rows.fnRootedRow.targs := of_decide_eq_true (by kernel_rfl)
theorem rt_named : Tryz.prog.funcNamed Rows.fnRootedRow.func = some 4 := by kernel_rfl
theorem rt_said (hO : Go.Abs.OrcOK Go.Abs.NN Tryz.prog 4 Go.Abs.lawO1) : Rows.FnRootedSaid :=
  OpenClaim.holds_of_wide 4 Tryz.f4 rfl rfl rfl rfl rfl rfl rfl ⟨rfl, rfl, rfl, rfl, rfl⟩ rfl rfl rfl rfl rfl rt_named Tryz.func4 rt_joined
    rt_inst rt_wrap (fun os started H enc _ => rt_lifted hO os started H enc)
end Go.Proofs.YteedodijgpinnaaGreatDoor
