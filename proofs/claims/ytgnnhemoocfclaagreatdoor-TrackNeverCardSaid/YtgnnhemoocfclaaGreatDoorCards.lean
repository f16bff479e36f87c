/-
  DERIVED. GIVEN WITH THE SEED: THE CARDS: each row of YtgnnhemoocfclaaGreatDoorRows.lean that lists a variable, with what it lists TIED to the program's text (the seventh form; the later family's looks); each row that meets fmt, with fmt's text TOLD by the authors' own Lean function (tested against real Go, not proved from fmt's source: count such statements apart). THE CARD IS WHAT COUNTS. Prove the row's statement (the work); the ties are given (YtgnnhemoocfclaaGreatDoorTie.lean); close each card by the builder's one call (the guide's Derived/Test/ToyasCard.lean, 'card_holds'). Laid BY PROGRAM, IN A SANDBOX (cutbox-door.mjs). By AI agents, Wed Nov 11 2026. No macro, syntax, notation, axiom, sorry.
-/
import Derived.Test.YtgnnhemoocfclaaGreatDoorRows
import GoSem.ClaimSeven
namespace Go.Proofs.YtgnnhemoocfclaaGreatDoor
namespace Rows

/-- THE TIED CARD OF 'watershedkeep.TrackOpens'. -/
def trackOpensCard : Claim7 := { stood := { row := trackOpensRow, standIns := [], harness := (true, "5fb6730809145aa88e6f66dc0995df30f2b37791de800d636984173ba9eaa620"), looks := false }, kinds := [], alts := [], laidByText := true, laidKinds := [.data], laidTests := true, laidLooks := .later }
def TrackOpensCardSaid : Prop := Claim7.holds Tryz.pinned (.plain (OpenSpec.ofChange trackOpensSpec)) trackOpensCard

/-- THE TIED CARD OF 'watershedkeep.TrackNever'. -/
def trackNeverCard : Claim7 := { stood := { row := trackNeverRow, standIns := [], harness := (true, "5fb6730809145aa88e6f66dc0995df30f2b37791de800d636984173ba9eaa620"), looks := false }, kinds := [], alts := [], laidByText := true, laidKinds := [.data], laidTests := true, laidLooks := .later }
def TrackNeverCardSaid : Prop := Claim7.holds Tryz.pinned (.plain (OpenSpec.ofChange trackNeverSpec)) trackNeverCard

/-- THE SECOND FORM's CARD OF 'watershedkeep.TrackOpens'. -/
def trackOpensUptoCard : Claim7 := { stood := { row := trackOpensUptoRow, standIns := [], harness := (true, "5fb6730809145aa88e6f66dc0995df30f2b37791de800d636984173ba9eaa620"), looks := false }, kinds := [], alts := [], laidByText := true, laidKinds := [.data], laidTests := true, laidLooks := .later }
def TrackOpensUptoCardSaid : Prop := Claim7.holds Tryz.pinned (.plain (OpenSpec.upto trackOpensSpec)) trackOpensUptoCard

/-- THE SECOND FORM's CARD OF 'watershedkeep.TrackNever'. -/
def trackNeverUptoCard : Claim7 := { stood := { row := trackNeverUptoRow, standIns := [], harness := (true, "5fb6730809145aa88e6f66dc0995df30f2b37791de800d636984173ba9eaa620"), looks := false }, kinds := [], alts := [], laidByText := true, laidKinds := [.data], laidTests := true, laidLooks := .later }
def TrackNeverUptoCardSaid : Prop := Claim7.holds Tryz.pinned (.plain (OpenSpec.upto trackNeverSpec)) trackNeverUptoCard
end Rows
end Go.Proofs.YtgnnhemoocfclaaGreatDoor
