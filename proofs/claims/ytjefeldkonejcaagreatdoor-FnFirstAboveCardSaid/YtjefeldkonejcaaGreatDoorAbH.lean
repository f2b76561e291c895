/-
  A PART OF THE PROOF of AbI (texts AbH): the claim itself stands in the last text. No conditions beside those of the given row.
-/
import Derived.Test.YtjefeldkonejcaaGreatDoorAbG
set_option linter.unusedVariables false
set_option linter.unnecessarySimpa false
set_option linter.unusedSimpArgs false
namespace Go.Proofs.YtjefeldkonejcaaGreatDoor
set_option maxRecDepth 100000
theorem ab_wrap : Tryz.f4.isWrapper Tryz.prog Rows.fnFirstAboveRow.wrapper Rows.fnFirstAboveRow.mainSum := by
  unfold Func.isWrapper; first | (rw [if_pos (by decide +kernel)]; kernel_rfl) | (rw [if_neg (by decide +kernel)]; exact ⟨rfl, rfl⟩)
theorem ab_inst : Tryz.f4.isInstance Tryz.prog Rows.fnFirstAboveRow.origin Rows.fnFirstAboveRow.targs := of_decide_eq_true (by kernel_rfl)
theorem ab_named : Tryz.prog.funcNamed Rows.fnFirstAboveRow.func = some 4 := by kernel_rfl
theorem ab_said (hO : Go.Abs.OrcOK Go.Abs.NN Tryz.prog 4 Go.Abs.lawO1) : Rows.FnFirstAboveSaid :=
  OpenClaim.holds_of_wide 4 Tryz.f4 rfl rfl rfl rfl rfl rfl rfl ⟨rfl, rfl, rfl, rfl, rfl⟩ rfl rfl rfl rfl rfl ab_named Tryz.func4 ab_joined
    ab_inst ab_wrap (fun os started H enc _ => ab_lifted hO os started H enc)
end Go.Proofs.YtjefeldkonejcaaGreatDoor
