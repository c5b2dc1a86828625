/-
  DERIVED. GIVEN WITH THE SEED: THE CARDS: each row of YtggnmemkhookdaaGreatDoorRows.lean that lists a variable, with what it lists TIED to the program's text (the seventh form; the later family's looks); each row that meets fmt, with fmt's text TOLD by the authors' own Lean function (tested against real Go, not proved from fmt's source: count such statements apart). THE CARD IS WHAT COUNTS. Prove the row's statement (the work); the ties are given (YtggnmemkhookdaaGreatDoorTie.lean); close each card by the builder's one call (the guide's Derived/Test/ToyasCard.lean, 'card_holds'). Laid BY PROGRAM, IN A SANDBOX (cutbox-door.mjs). By AI agents, Wed Nov 11 2026. No macro, syntax, notation, axiom, sorry.
-/
import Derived.Test.YtggnmemkhookdaaGreatDoorRows
import GoSem.ClaimSeven
namespace Go.Proofs.YtggnmemkhookdaaGreatDoor
namespace Rows

/-- THE TIED CARD OF 'steeningtop.TopBooked'. -/
def topBookedCard : Claim7 := { stood := { row := topBookedRow, standIns := [], harness := (true, "7b3b563fe49d53b459d9e1168fbeef6732a090431244f7bc8fb76e60ddbdf3e8"), looks := false }, kinds := [], alts := [], laidByText := true, laidKinds := [.data, .data], laidTests := true, laidLooks := .later }
def TopBookedCardSaid : Prop := Claim7.holds Tryz.pinned (.plain (OpenSpec.ofChange topBookedSpec)) topBookedCard

/-- THE SECOND FORM's CARD OF 'steeningtop.TopBooked'. -/
def topBookedUptoCard : Claim7 := { stood := { row := topBookedUptoRow, standIns := [], harness := (true, "7b3b563fe49d53b459d9e1168fbeef6732a090431244f7bc8fb76e60ddbdf3e8"), looks := false }, kinds := [], alts := [], laidByText := true, laidKinds := [.data, .data], laidTests := true, laidLooks := .later }
def TopBookedUptoCardSaid : Prop := Claim7.holds Tryz.pinned (.plain (OpenSpec.upto topBookedSpec)) topBookedUptoCard
end Rows
end Go.Proofs.YtggnmemkhookdaaGreatDoor
