/-
  DERIVED. GIVEN WITH THE SEED: THE CARDS: each row of YtjefeldkonejcaaGreatDoorRows.lean that lists a variable, with what it lists TIED to the program's text (the seventh form; the later family's looks); each row that meets fmt, with fmt's text TOLD by the authors' own Lean function (tested against real Go, not proved from fmt's source: count such statements apart). THE CARD IS WHAT COUNTS. Prove the row's statement (the work); the ties are given (YtjefeldkonejcaaGreatDoorTie.lean); close each card by the builder's one call (the guide's Derived/Test/ToyasCard.lean, 'card_holds'). Laid BY PROGRAM, IN A SANDBOX (cutbox-door.mjs). By AI agents, Wed Nov 11 2026. No macro, syntax, notation, axiom, sorry.
-/
import Derived.Test.YtjefeldkonejcaaGreatDoorRows
import GoSem.ClaimSeven
namespace Go.Proofs.YtjefeldkonejcaaGreatDoor
namespace Rows

/-- THE TIED CARD OF 'laws.FnTold'. -/
def fnToldCard : Claim7 := { stood := { row := fnToldRow, standIns := [], harness := (true, "7042b47bde42715f96ca8584e4c7877f8b11d0b6c45ae0d1d4f4f5117de4b13f"), looks := false }, kinds := [], alts := [], laidByText := true, laidKinds := [.data, .data, .data], laidTests := true, laidLooks := .later }
def FnToldCardSaid : Prop := Claim7.holds Tryz.pinned (.plain (OpenSpec.ofChange fnToldSpec)) fnToldCard

/-- THE TIED CARD OF 'laws.FnFirstAbove'. -/
def fnFirstAboveCard : Claim7 := { stood := { row := fnFirstAboveRow, standIns := [], harness := (true, "7042b47bde42715f96ca8584e4c7877f8b11d0b6c45ae0d1d4f4f5117de4b13f"), looks := false }, kinds := [], alts := [], laidByText := true, laidKinds := [.data, .data, .data], laidTests := true, laidLooks := .later }
def FnFirstAboveCardSaid : Prop := Claim7.holds Tryz.pinned (.plain (OpenSpec.ofChange fnFirstAboveSpec)) fnFirstAboveCard

/-- THE SECOND FORM's CARD OF 'laws.FnTold'. -/
def fnToldUptoCard : Claim7 := { stood := { row := fnToldUptoRow, standIns := [], harness := (true, "7042b47bde42715f96ca8584e4c7877f8b11d0b6c45ae0d1d4f4f5117de4b13f"), looks := false }, kinds := [], alts := [], laidByText := true, laidKinds := [.data, .data, .data], laidTests := true, laidLooks := .later }
def FnToldUptoCardSaid : Prop := Claim7.holds Tryz.pinned (.plain (OpenSpec.upto fnToldSpec)) fnToldUptoCard

/-- THE SECOND FORM's CARD OF 'laws.FnFirstAbove'. -/
def fnFirstAboveUptoCard : Claim7 := { stood := { row := fnFirstAboveUptoRow, standIns := [], harness := (true, "7042b47bde42715f96ca8584e4c7877f8b11d0b6c45ae0d1d4f4f5117de4b13f"), looks := false }, kinds := [], alts := [], laidByText := true, laidKinds := [.data, .data, .data], laidTests := true, laidLooks := .later }
def FnFirstAboveUptoCardSaid : Prop := Claim7.holds Tryz.pinned (.plain (OpenSpec.upto fnFirstAboveSpec)) fnFirstAboveUptoCard
end Rows
end Go.Proofs.YtjefeldkonejcaaGreatDoor
