/-
  DERIVED. GIVEN WITH THE SEED: THE CARDS: each row of YtpangdaijhiohaaGreatDoorRows.lean that lists a variable, with what it lists TIED to the program's text (the seventh form; the later family's looks); each row that meets fmt, with fmt's text TOLD by the authors' own Lean function (tested against real Go, not proved from fmt's source: count such statements apart). THE CARD IS WHAT COUNTS. Prove the row's statement (the work); the ties are given (YtpangdaijhiohaaGreatDoorTie.lean); close each card by the builder's one call (the guide's Derived/Test/ToyasCard.lean, 'card_holds'). Laid BY PROGRAM, IN A SANDBOX (cutbox-door.mjs). By AI agents, Wed Nov 11 2026. No macro, syntax, notation, axiom, sorry.
-/
import Derived.Test.YtpangdaijhiohaaGreatDoorRows
import GoSem.ClaimSeven
namespace Go.Proofs.YtpangdaijhiohaaGreatDoor
namespace Rows

/-- THE TIED CARD OF 'steeningtop.TopBooked'. -/
def topBookedCard : Claim7 := { stood := { row := topBookedRow, standIns := [], harness := (true, "ec79288ad0cb52e30ca41cf2de6e51cdb83259b1ef0e9ec05094d72a693807d3"), looks := false }, kinds := [], alts := [], laidByText := true, laidKinds := [.data, .data], laidTests := true, laidLooks := .later }
def TopBookedCardSaid : Prop := Claim7.holds Tryz.pinned (.plain (OpenSpec.ofChange topBookedSpec)) topBookedCard

/-- THE TIED CARD OF 'steeningtop.TopCounted'. -/
def topCountedCard : Claim7 := { stood := { row := topCountedRow, standIns := [], harness := (true, "ec79288ad0cb52e30ca41cf2de6e51cdb83259b1ef0e9ec05094d72a693807d3"), looks := false }, kinds := [], alts := [], laidByText := true, laidKinds := [.data], laidTests := true, laidLooks := .later }
def TopCountedCardSaid : Prop := Claim7.holds Tryz.pinned (.plain (OpenSpec.ofChange topCountedSpec)) topCountedCard

/-- THE TIED CARD OF 'steeningtop.TopTied'. -/
def topTiedCard : Claim7 := { stood := { row := topTiedRow, standIns := [], harness := (true, "ec79288ad0cb52e30ca41cf2de6e51cdb83259b1ef0e9ec05094d72a693807d3"), looks := false }, kinds := [], alts := [], laidByText := true, laidKinds := [.data], laidTests := true, laidLooks := .later }
def TopTiedCardSaid : Prop := Claim7.holds Tryz.pinned (.plain (OpenSpec.ofChange topTiedSpec)) topTiedCard

/-- THE SECOND FORM's CARD OF 'steeningtop.TopBooked'. -/
def topBookedUptoCard : Claim7 := { stood := { row := topBookedUptoRow, standIns := [], harness := (true, "ec79288ad0cb52e30ca41cf2de6e51cdb83259b1ef0e9ec05094d72a693807d3"), looks := false }, kinds := [], alts := [], laidByText := true, laidKinds := [.data, .data], laidTests := true, laidLooks := .later }
def TopBookedUptoCardSaid : Prop := Claim7.holds Tryz.pinned (.plain (OpenSpec.upto topBookedSpec)) topBookedUptoCard

/-- THE SECOND FORM's CARD OF 'steeningtop.TopCounted'. -/
def topCountedUptoCard : Claim7 := { stood := { row := topCountedUptoRow, standIns := [], harness := (true, "ec79288ad0cb52e30ca41cf2de6e51cdb83259b1ef0e9ec05094d72a693807d3"), looks := false }, kinds := [], alts := [], laidByText := true, laidKinds := [.data], laidTests := true, laidLooks := .later }
def TopCountedUptoCardSaid : Prop := Claim7.holds Tryz.pinned (.plain (OpenSpec.upto topCountedSpec)) topCountedUptoCard

/-- THE SECOND FORM's CARD OF 'steeningtop.TopTied'. -/
def topTiedUptoCard : Claim7 := { stood := { row := topTiedUptoRow, standIns := [], harness := (true, "ec79288ad0cb52e30ca41cf2de6e51cdb83259b1ef0e9ec05094d72a693807d3"), looks := false }, kinds := [], alts := [], laidByText := true, laidKinds := [.data], laidTests := true, laidLooks := .later }
def TopTiedUptoCardSaid : Prop := Claim7.holds Tryz.pinned (.plain (OpenSpec.upto topTiedSpec)) topTiedUptoCard
end Rows
end Go.Proofs.YtpangdaijhiohaaGreatDoor
