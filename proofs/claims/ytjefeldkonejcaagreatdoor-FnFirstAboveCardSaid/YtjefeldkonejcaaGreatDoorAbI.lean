/-
  THE TIED CARD of FnFirstAbove holds: over any slice of bytes the law answers true and leaves its argument alone. Conditions: those of the given row (the tables laid as the program's text lays them, the card's own print).
-/
import Derived.Test.YtjefeldkonejcaaGreatDoorAbH
import Derived.Test.YtjefeldkonejcaaGreatDoorAbvD
import Derived.Test.YtjefeldkonejcaaGreatDoorTie
import Derived.Test.YtjefeldkonejcaaGreatDoorCards
import Derived.SevenTiedAt
set_option linter.unusedVariables false
set_option linter.unnecessarySimpa false
set_option linter.unusedSimpArgs false
namespace Go.Proofs.YtjefeldkonejcaaGreatDoor
open Go
set_option maxRecDepth 100000
theorem ab_card : Rows.FnFirstAboveCardSaid :=
  Claim7.holds_tied_plain_at .later [] [.data, .data, .data] true (true, "7042b47bde42715f96ca8584e4c7877f8b11d0b6c45ae0d1d4f4f5117de4b13f") false
    (ab_said Go.Abs.ab_law) (fun _ h => by cases h) (by kernel_rfl) (fun _ h => by cases h) fnFirstAbove_row_tie rfl ⟨rfl, rfl⟩ (by kernel_rfl) rfl
    (fun f fn hf hfn => by
      obtain rfl : f = 4 := Option.some.inj (ab_named.symm.trans hf) |>.symm
      obtain rfl : fn = Tryz.f4 := (Option.some.inj (Tryz.func4.symm.trans hfn)).symm
      exact ⟨by kernel_rfl, fun j t ht => by
        rw [Tryz.params4] at ht
        have hm : t ∈ [22] := by simpa using Array.mem_of_getElem? ht
        have hall : ([22].all fun u => !Tryz.prog.wantsStandIn u) = true := by kernel_rfl
        exact (show Tryz.prog.wantsStandIn t = false by simpa using List.all_eq_true.1 hall t hm)⟩)
    (by kernel_rfl)
#print axioms ab_card
end Go.Proofs.YtjefeldkonejcaaGreatDoor
