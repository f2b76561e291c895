/-
  THE TIED CARD of FnLifted holds: over any slice of bytes the law answers true and leaves its argument alone. Conditions: those of the given row (the tables laid as the program's text lays them, the card's own print).
-/
import Derived.Test.YteedodijgpinnaaGreatDoorLtH
import Derived.Test.YteedodijgpinnaaGreatDoorLifN
import Derived.Test.YteedodijgpinnaaGreatDoorTie
import Derived.Test.YteedodijgpinnaaGreatDoorCards
import Derived.SevenTiedAt
set_option linter.unusedVariables false
set_option linter.unnecessarySimpa false
set_option linter.unusedSimpArgs false
namespace Go.Proofs.YteedodijgpinnaaGreatDoor
open Go
set_option maxRecDepth 100000
theorem lt_card : Rows.FnLiftedCardSaid :=
  Claim7.holds_tied_plain_at .later [] [.data, .data, .data] true (true, "bbd976e4c55b31b96d0e47321c6ca5a3b608f76cb1c26bd2f4e6ce61ad2afcfd") false
    (lt_said Go.Abs.li_law) (fun _ h => by cases h) (by kernel_rfl) (fun _ h => by cases h) fnLifted_row_tie rfl ⟨rfl, rfl⟩ (by kernel_rfl) rfl
    (fun f fn hf hfn => by
      obtain rfl : f = 6 := Option.some.inj (lt_named.symm.trans hf) |>.symm
      obtain rfl : fn = Tryz.f6 := (Option.some.inj (Tryz.func6.symm.trans hfn)).symm
      exact ⟨by kernel_rfl, fun j t ht => by
        rw [Tryz.params6] at ht
        have hm : t ∈ [22] := by simpa using Array.mem_of_getElem? ht
        have hall : ([22].all fun u => !Tryz.prog.wantsStandIn u) = true := by kernel_rfl
        exact (show Tryz.prog.wantsStandIn t = false by simpa using List.all_eq_true.1 hall t hm)⟩)
    (by kernel_rfl)
#print axioms lt_card
end Go.Proofs.YteedodijgpinnaaGreatDoor
