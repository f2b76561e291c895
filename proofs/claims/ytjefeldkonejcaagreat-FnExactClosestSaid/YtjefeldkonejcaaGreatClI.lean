/-
  THE STATEMENT FnExactClosest: over any nodes and any place the law answers true and leaves its arguments alone.
-/
import Derived.Test.YtjefeldkonejcaaGreatClG
set_option linter.unusedVariables false
set_option linter.unnecessarySimpa false
set_option linter.unusedSimpArgs false
namespace Go.Proofs.YtjefeldkonejcaaGreat
open Go
set_option maxRecDepth 100000
theorem cl_wrap : Tryz.f3.isWrapper Tryz.prog Rows.fnExactClosestRow.wrapper Rows.fnExactClosestRow.mainSum := by
  unfold Func.isWrapper; first | (rw [if_pos (by decide +kernel)]; kernel_rfl) | (rw [if_neg (by decide +kernel)]; exact ⟨rfl, rfl⟩)
theorem cl_inst : Tryz.f3.isInstance Tryz.prog Rows.fnExactClosestRow.origin Rows.fnExactClosestRow.targs := of_decide_eq_true (by kernel_rfl)
theorem cl_named : Tryz.prog.funcNamed Rows.fnExactClosestRow.func = some 3 := by kernel_rfl
theorem cl_said : Rows.FnExactClosestSaid :=
  OpenClaim.holds_of_wide 3 Tryz.f3 rfl rfl rfl rfl rfl rfl rfl ⟨rfl, rfl, rfl, rfl, rfl⟩ rfl rfl rfl rfl rfl cl_named Tryz.func3 cl_joined
    cl_inst cl_wrap (fun os started H enc _ => cl_lifted os started H enc)
#print axioms cl_said
end Go.Proofs.YtjefeldkonejcaaGreat
