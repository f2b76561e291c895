/-
  DERIVED. GIVEN WITH THE SEED: THE CARDS: each row of YteedodijgpinnaaGreatDoorRows.lean that lists a variable, with what it lists TIED to the program's text (the seventh form; the later family's looks); each row that meets fmt, with fmt's text TOLD by the authors' own Lean function (tested against real Go, not proved from fmt's source: count such statements apart). THE CARD IS WHAT COUNTS. Prove the row's statement (the work); the ties are given (YteedodijgpinnaaGreatDoorTie.lean); close each card by the builder's one call (the guide's Derived/Test/ToyasCard.lean, 'card_holds'). Laid BY PROGRAM, IN A SANDBOX (cutbox-door.mjs). By AI agents, Wed Nov 11 2026. No macro, syntax, notation, axiom, sorry.
-/
import Derived.Test.YteedodijgpinnaaGreatDoorRows
import GoSem.ClaimSeven
namespace Go.Proofs.YteedodijgpinnaaGreatDoor
namespace Rows

/-- THE TIED CARD OF 'laws.FnFractions'. -/
def fnFractionsCard : Claim7 := { stood := { row := fnFractionsRow, standIns := [], harness := (true, "bbd976e4c55b31b96d0e47321c6ca5a3b608f76cb1c26bd2f4e6ce61ad2afcfd"), looks := false }, kinds := [], alts := [], laidByText := true, laidKinds := [.data, .data, .data], laidTests := true, laidLooks := .later }
def FnFractionsCardSaid : Prop := Claim7.holds Tryz.pinned (.plain (OpenSpec.ofChange fnFractionsSpec)) fnFractionsCard

/-- THE TIED CARD OF 'laws.FnRooted'. -/
def fnRootedCard : Claim7 := { stood := { row := fnRootedRow, standIns := [], harness := (true, "bbd976e4c55b31b96d0e47321c6ca5a3b608f76cb1c26bd2f4e6ce61ad2afcfd"), looks := false }, kinds := [], alts := [], laidByText := true, laidKinds := [.data, .data, .data], laidTests := true, laidLooks := .later }
def FnRootedCardSaid : Prop := Claim7.holds Tryz.pinned (.plain (OpenSpec.ofChange fnRootedSpec)) fnRootedCard

/-- THE TIED CARD OF 'laws.FnTold'. -/
def fnToldCard : Claim7 := { stood := { row := fnToldRow, standIns := [], harness := (true, "bbd976e4c55b31b96d0e47321c6ca5a3b608f76cb1c26bd2f4e6ce61ad2afcfd"), looks := false }, kinds := [], alts := [], laidByText := true, laidKinds := [.data, .data, .data], laidTests := true, laidLooks := .later }
def FnToldCardSaid : Prop := Claim7.holds Tryz.pinned (.plain (OpenSpec.ofChange fnToldSpec)) fnToldCard

/-- THE TIED CARD OF 'laws.FnLifted'. -/
def fnLiftedCard : Claim7 := { stood := { row := fnLiftedRow, standIns := [], harness := (true, "bbd976e4c55b31b96d0e47321c6ca5a3b608f76cb1c26bd2f4e6ce61ad2afcfd"), looks := false }, kinds := [], alts := [], laidByText := true, laidKinds := [.data, .data, .data], laidTests := true, laidLooks := .later }
def FnLiftedCardSaid : Prop := Claim7.holds Tryz.pinned (.plain (OpenSpec.ofChange fnLiftedSpec)) fnLiftedCard

/-- THE TIED CARD OF 'laws.FnNearest'. -/
def fnNearestCard : Claim7 := { stood := { row := fnNearestRow, standIns := [], harness := (true, "bbd976e4c55b31b96d0e47321c6ca5a3b608f76cb1c26bd2f4e6ce61ad2afcfd"), looks := false }, kinds := [], alts := [], laidByText := true, laidKinds := [.data, .data, .data], laidTests := true, laidLooks := .later }
def FnNearestCardSaid : Prop := Claim7.holds Tryz.pinned (.plain (OpenSpec.ofChange fnNearestSpec)) fnNearestCard

/-- THE TIED CARD OF 'laws.FnMeets'. -/
def fnMeetsCard : Claim7 := { stood := { row := fnMeetsRow, standIns := [], harness := (true, "bbd976e4c55b31b96d0e47321c6ca5a3b608f76cb1c26bd2f4e6ce61ad2afcfd"), looks := false }, kinds := [], alts := [], laidByText := true, laidKinds := [.data, .data, .data], laidTests := true, laidLooks := .later }
def FnMeetsCardSaid : Prop := Claim7.holds Tryz.pinned (.plain (OpenSpec.ofChange fnMeetsSpec)) fnMeetsCard

/-- THE TIED CARD OF 'laws.FnFeet'. -/
def fnFeetCard : Claim7 := { stood := { row := fnFeetRow, standIns := [], harness := (true, "bbd976e4c55b31b96d0e47321c6ca5a3b608f76cb1c26bd2f4e6ce61ad2afcfd"), looks := false }, kinds := [], alts := [], laidByText := true, laidKinds := [.data, .data, .data], laidTests := true, laidLooks := .later }
def FnFeetCardSaid : Prop := Claim7.holds Tryz.pinned (.plain (OpenSpec.ofChange fnFeetSpec)) fnFeetCard

/-- THE SECOND FORM's CARD OF 'laws.FnFractions'. -/
def fnFractionsUptoCard : Claim7 := { stood := { row := fnFractionsUptoRow, standIns := [], harness := (true, "bbd976e4c55b31b96d0e47321c6ca5a3b608f76cb1c26bd2f4e6ce61ad2afcfd"), looks := false }, kinds := [], alts := [], laidByText := true, laidKinds := [.data, .data, .data], laidTests := true, laidLooks := .later }
def FnFractionsUptoCardSaid : Prop := Claim7.holds Tryz.pinned (.plain (OpenSpec.upto fnFractionsSpec)) fnFractionsUptoCard

/-- THE SECOND FORM's CARD OF 'laws.FnRooted'. -/
def fnRootedUptoCard : Claim7 := { stood := { row := fnRootedUptoRow, standIns := [], harness := (true, "bbd976e4c55b31b96d0e47321c6ca5a3b608f76cb1c26bd2f4e6ce61ad2afcfd"), looks := false }, kinds := [], alts := [], laidByText := true, laidKinds := [.data, .data, .data], laidTests := true, laidLooks := .later }
def FnRootedUptoCardSaid : Prop := Claim7.holds Tryz.pinned (.plain (OpenSpec.upto fnRootedSpec)) fnRootedUptoCard

/-- THE SECOND FORM's CARD OF 'laws.FnTold'. -/
def fnToldUptoCard : Claim7 := { stood := { row := fnToldUptoRow, standIns := [], harness := (true, "bbd976e4c55b31b96d0e47321c6ca5a3b608f76cb1c26bd2f4e6ce61ad2afcfd"), looks := false }, kinds := [], alts := [], laidByText := true, laidKinds := [.data, .data, .data], laidTests := true, laidLooks := .later }
def FnToldUptoCardSaid : Prop := Claim7.holds Tryz.pinned (.plain (OpenSpec.upto fnToldSpec)) fnToldUptoCard

/-- THE SECOND FORM's CARD OF 'laws.FnLifted'. -/
def fnLiftedUptoCard : Claim7 := { stood := { row := fnLiftedUptoRow, standIns := [], harness := (true, "bbd976e4c55b31b96d0e47321c6ca5a3b608f76cb1c26bd2f4e6ce61ad2afcfd"), looks := false }, kinds := [], alts := [], laidByText := true, laidKinds := [.data, .data, .data], laidTests := true, laidLooks := .later }
def FnLiftedUptoCardSaid : Prop := Claim7.holds Tryz.pinned (.plain (OpenSpec.upto fnLiftedSpec)) fnLiftedUptoCard

/-- THE SECOND FORM's CARD OF 'laws.FnNearest'. -/
def fnNearestUptoCard : Claim7 := { stood := { row := fnNearestUptoRow, standIns := [], harness := (true, "bbd976e4c55b31b96d0e47321c6ca5a3b608f76cb1c26bd2f4e6ce61ad2afcfd"), looks := false }, kinds := [], alts := [], laidByText := true, laidKinds := [.data, .data, .data], laidTests := true, laidLooks := .later }
def FnNearestUptoCardSaid : Prop := Claim7.holds Tryz.pinned (.plain (OpenSpec.upto fnNearestSpec)) fnNearestUptoCard

/-- THE SECOND FORM's CARD OF 'laws.FnMeets'. -/
def fnMeetsUptoCard : Claim7 := { stood := { row := fnMeetsUptoRow, standIns := [], harness := (true, "bbd976e4c55b31b96d0e47321c6ca5a3b608f76cb1c26bd2f4e6ce61ad2afcfd"), looks := false }, kinds := [], alts := [], laidByText := true, laidKinds := [.data, .data, .data], laidTests := true, laidLooks := .later }
def FnMeetsUptoCardSaid : Prop := Claim7.holds Tryz.pinned (.plain (OpenSpec.upto fnMeetsSpec)) fnMeetsUptoCard

/-- THE SECOND FORM's CARD OF 'laws.FnFeet'. -/
def fnFeetUptoCard : Claim7 := { stood := { row := fnFeetUptoRow, standIns := [], harness := (true, "bbd976e4c55b31b96d0e47321c6ca5a3b608f76cb1c26bd2f4e6ce61ad2afcfd"), looks := false }, kinds := [], alts := [], laidByText := true, laidKinds := [.data, .data, .data], laidTests := true, laidLooks := .later }
def FnFeetUptoCardSaid : Prop := Claim7.holds Tryz.pinned (.plain (OpenSpec.upto fnFeetSpec)) fnFeetUptoCard
end Rows
end Go.Proofs.YteedodijgpinnaaGreatDoor
