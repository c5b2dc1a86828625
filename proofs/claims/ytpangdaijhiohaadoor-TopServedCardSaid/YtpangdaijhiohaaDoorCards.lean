/-
  DERIVED. GIVEN WITH THE SEED: THE CARDS: each row of YtpangdaijhiohaaDoorRows.lean that lists a variable, with what it lists TIED to the program's text (the seventh form; the later family's looks); each row that meets fmt, with fmt's text TOLD by the authors' own Lean function (tested against real Go, not proved from fmt's source: count such statements apart). THE CARD IS WHAT COUNTS. Prove the row's statement (the work); the ties are given (YtpangdaijhiohaaDoorTie.lean); close each card by the builder's one call (the guide's Derived/Test/ToyasCard.lean, 'card_holds'). Laid BY PROGRAM, IN A SANDBOX (cutbox-door.mjs). By AI agents, Wed Nov 11 2026. No macro, syntax, notation, axiom, sorry.
-/
import Derived.Test.YtpangdaijhiohaaDoorRows
import GoSem.ClaimSeven
namespace Go.Proofs.YtpangdaijhiohaaDoor
namespace Rows

/-- THE TIED CARD OF 'steeningtop.TopServed'. -/
def topServedCard : Claim7 := { stood := { row := topServedRow, standIns := [], harness := (true, "019436304e9de659f5d69d027d878c799a766dc1f1b1bf7770a2546bf56a7042"), looks := false }, kinds := [], alts := [], laidByText := true, laidKinds := [.data], laidTests := true, laidLooks := .later }
def TopServedCardSaid : Prop := Claim7.holds Tryd.pinned (.plain (OpenSpec.ofChange topServedSpec)) topServedCard

/-- THE SECOND FORM's CARD OF 'steeningtop.TopServed'. -/
def topServedUptoCard : Claim7 := { stood := { row := topServedUptoRow, standIns := [], harness := (true, "019436304e9de659f5d69d027d878c799a766dc1f1b1bf7770a2546bf56a7042"), looks := false }, kinds := [], alts := [], laidByText := true, laidKinds := [.data], laidTests := true, laidLooks := .later }
def TopServedUptoCardSaid : Prop := Claim7.holds Tryd.pinned (.plain (OpenSpec.upto topServedSpec)) topServedUptoCard
end Rows
end Go.Proofs.YtpangdaijhiohaaDoor
