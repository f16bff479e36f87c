/-
  DERIVED. GIVEN WITH THE SEED: THE CARDS: each row of YtkijpiphgnnonaaDoorRows.lean that lists a variable, with what it lists TIED to the program's text (the seventh form; the later family's looks); each row that meets fmt, with fmt's text TOLD by the authors' own Lean function (tested against real Go, not proved from fmt's source: count such statements apart). THE CARD IS WHAT COUNTS. Prove the row's statement (the work); the ties are given (YtkijpiphgnnonaaDoorTie.lean); close each card by the builder's one call (the guide's Derived/Test/ToyasCard.lean, 'card_holds'). Laid BY PROGRAM, IN A SANDBOX (cutbox-door.mjs). By AI agents, Wed Nov 11 2026. No macro, syntax, notation, axiom, sorry.
-/
import Derived.Test.YtkijpiphgnnonaaDoorRows
import GoSem.ClaimSeven
namespace Go.Proofs.YtkijpiphgnnonaaDoor
namespace Rows

/-- THE TIED CARD OF 'watershedkeep.PolarMeets'. -/
def polarMeetsCard : Claim7 := { stood := { row := polarMeetsRow, standIns := [], harness := (true, "eebcbe0f3c8be3f0a6d70c5c4bf7b8bb5613e0469acd865ab9a669de598ee326"), looks := false }, kinds := [], alts := [], laidByText := true, laidKinds := [.data], laidTests := true, laidLooks := .later }
def PolarMeetsCardSaid : Prop := Claim7.holds Tryd.pinned (.plain (OpenSpec.ofChange polarMeetsSpec)) polarMeetsCard

/-- THE TIED CARD OF 'watershedkeep.PolarMacNeille'. -/
def polarMacNeilleCard : Claim7 := { stood := { row := polarMacNeilleRow, standIns := [], harness := (true, "eebcbe0f3c8be3f0a6d70c5c4bf7b8bb5613e0469acd865ab9a669de598ee326"), looks := false }, kinds := [], alts := [], laidByText := true, laidKinds := [.data], laidTests := true, laidLooks := .later }
def PolarMacNeilleCardSaid : Prop := Claim7.holds Tryd.pinned (.plain (OpenSpec.ofChange polarMacNeilleSpec)) polarMacNeilleCard

/-- THE SECOND FORM's CARD OF 'watershedkeep.PolarMeets'. -/
def polarMeetsUptoCard : Claim7 := { stood := { row := polarMeetsUptoRow, standIns := [], harness := (true, "eebcbe0f3c8be3f0a6d70c5c4bf7b8bb5613e0469acd865ab9a669de598ee326"), looks := false }, kinds := [], alts := [], laidByText := true, laidKinds := [.data], laidTests := true, laidLooks := .later }
def PolarMeetsUptoCardSaid : Prop := Claim7.holds Tryd.pinned (.plain (OpenSpec.upto polarMeetsSpec)) polarMeetsUptoCard

/-- THE SECOND FORM's CARD OF 'watershedkeep.PolarMacNeille'. -/
def polarMacNeilleUptoCard : Claim7 := { stood := { row := polarMacNeilleUptoRow, standIns := [], harness := (true, "eebcbe0f3c8be3f0a6d70c5c4bf7b8bb5613e0469acd865ab9a669de598ee326"), looks := false }, kinds := [], alts := [], laidByText := true, laidKinds := [.data], laidTests := true, laidLooks := .later }
def PolarMacNeilleUptoCardSaid : Prop := Claim7.holds Tryd.pinned (.plain (OpenSpec.upto polarMacNeilleSpec)) polarMacNeilleUptoCard
end Rows
end Go.Proofs.YtkijpiphgnnonaaDoor
