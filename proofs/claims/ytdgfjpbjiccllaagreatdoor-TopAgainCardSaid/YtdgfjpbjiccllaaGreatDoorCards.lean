/-
  DERIVED. GIVEN WITH THE SEED: THE CARDS: each row of YtdgfjpbjiccllaaGreatDoorRows.lean that lists a variable, with what it lists TIED to the program's text (the seventh form; the later family's looks); each row that meets fmt, with fmt's text TOLD by the authors' own Lean function (tested against real Go, not proved from fmt's source: count such statements apart). THE CARD IS WHAT COUNTS. Prove the row's statement (the work); the ties are given (YtdgfjpbjiccllaaGreatDoorTie.lean); close each card by the builder's one call (the guide's Derived/Test/ToyasCard.lean, 'card_holds'). Laid BY PROGRAM, IN A SANDBOX (cutbox-door.mjs). By AI agents, Wed Nov 11 2026. No macro, syntax, notation, axiom, sorry.
-/
import Derived.Test.YtdgfjpbjiccllaaGreatDoorRows
import GoSem.ClaimSeven
namespace Go.Proofs.YtdgfjpbjiccllaaGreatDoor
namespace Rows

/-- THE TIED CARD OF 'taskmastertop.TopAgain'. -/
def topAgainCard : Claim7 := { stood := { row := topAgainRow, standIns := [], harness := (true, "8ebc0eb2dc2cbd425d4798b3bf6c468a4ab501499633abccc98bd9d8434c8805"), looks := false }, kinds := [], alts := [], laidByText := true, laidKinds := [.data, .data, .data, .listed, .data], laidTests := true, laidLooks := .later }
def TopAgainCardSaid : Prop := Claim7.holds Tryz.pinned (.plain (OpenSpec.ofChange topAgainSpec)) topAgainCard

/-- THE TIED CARD OF 'taskmastertop.TopAlone'. -/
def topAloneCard : Claim7 := { stood := { row := topAloneRow, standIns := [], harness := (true, "8ebc0eb2dc2cbd425d4798b3bf6c468a4ab501499633abccc98bd9d8434c8805"), looks := false }, kinds := [], alts := [], laidByText := true, laidKinds := [.data, .data, .data, .listed, .data], laidTests := true, laidLooks := .later }
def TopAloneCardSaid : Prop := Claim7.holds Tryz.pinned (.plain (OpenSpec.ofChange topAloneSpec)) topAloneCard

/-- THE TIED CARD OF 'taskmastertop.TopLoads'. -/
def topLoadsCard : Claim7 := { stood := { row := topLoadsRow, standIns := [], harness := (true, "8ebc0eb2dc2cbd425d4798b3bf6c468a4ab501499633abccc98bd9d8434c8805"), looks := false }, kinds := [], alts := [], laidByText := true, laidKinds := [.data, .data, .data, .listed, .data], laidTests := true, laidLooks := .later }
def TopLoadsCardSaid : Prop := Claim7.holds Tryz.pinned (.plain (OpenSpec.ofChange topLoadsSpec)) topLoadsCard

/-- THE SECOND FORM's CARD OF 'taskmastertop.TopAgain'. -/
def topAgainUptoCard : Claim7 := { stood := { row := topAgainUptoRow, standIns := [], harness := (true, "8ebc0eb2dc2cbd425d4798b3bf6c468a4ab501499633abccc98bd9d8434c8805"), looks := false }, kinds := [], alts := [], laidByText := true, laidKinds := [.data, .data, .data, .listed, .data], laidTests := true, laidLooks := .later }
def TopAgainUptoCardSaid : Prop := Claim7.holds Tryz.pinned (.plain (OpenSpec.upto topAgainSpec)) topAgainUptoCard

/-- THE SECOND FORM's CARD OF 'taskmastertop.TopAlone'. -/
def topAloneUptoCard : Claim7 := { stood := { row := topAloneUptoRow, standIns := [], harness := (true, "8ebc0eb2dc2cbd425d4798b3bf6c468a4ab501499633abccc98bd9d8434c8805"), looks := false }, kinds := [], alts := [], laidByText := true, laidKinds := [.data, .data, .data, .listed, .data], laidTests := true, laidLooks := .later }
def TopAloneUptoCardSaid : Prop := Claim7.holds Tryz.pinned (.plain (OpenSpec.upto topAloneSpec)) topAloneUptoCard

/-- THE SECOND FORM's CARD OF 'taskmastertop.TopLoads'. -/
def topLoadsUptoCard : Claim7 := { stood := { row := topLoadsUptoRow, standIns := [], harness := (true, "8ebc0eb2dc2cbd425d4798b3bf6c468a4ab501499633abccc98bd9d8434c8805"), looks := false }, kinds := [], alts := [], laidByText := true, laidKinds := [.data, .data, .data, .listed, .data], laidTests := true, laidLooks := .later }
def TopLoadsUptoCardSaid : Prop := Claim7.holds Tryz.pinned (.plain (OpenSpec.upto topLoadsSpec)) topLoadsUptoCard
end Rows
end Go.Proofs.YtdgfjpbjiccllaaGreatDoor
