/-
  DERIVED. GIVEN WITH THE SEED: THE CARDS: each row of YtnhjpicdijeagaaDoorRows.lean that lists a variable, with what it lists TIED to the program's text (the seventh form; the later family's looks); each row that meets fmt, with fmt's text TOLD by the authors' own Lean function (tested against real Go, not proved from fmt's source: count such statements apart). THE CARD IS WHAT COUNTS. Prove the row's statement (the work); the ties are given (YtnhjpicdijeagaaDoorTie.lean); close each card by the builder's one call (the guide's Derived/Test/ToyasCard.lean, 'card_holds'). Laid BY PROGRAM, IN A SANDBOX (cutbox-door.mjs). By AI agents, Wed Nov 11 2026. No macro, syntax, notation, axiom, sorry.
-/
import Derived.Test.YtnhjpicdijeagaaDoorRows
import GoSem.ClaimSeven
namespace Go.Proofs.YtnhjpicdijeagaaDoor
namespace Rows

/-- THE TIED CARD OF 'watershedkeep.MeanNone'. -/
def meanNoneCard : Claim7 := { stood := { row := meanNoneRow, standIns := [], harness := (true, "e9a8fd604a51e15856effb0a19d24765d5131a69d51726de0e676d9b17878def"), looks := true }, kinds := [], alts := [], laidByText := true, laidKinds := [.data], laidTests := true, laidLooks := .later }
def MeanNoneCardSaid : Prop := Claim7.holds Tryd.pinned (.plain (OpenSpec.ofChange meanNoneSpec)) meanNoneCard

/-- THE TIED CARD OF 'watershedkeep.MeanLater'. -/
def meanLaterCard : Claim7 := { stood := { row := meanLaterRow, standIns := [], harness := (true, "e9a8fd604a51e15856effb0a19d24765d5131a69d51726de0e676d9b17878def"), looks := true }, kinds := [], alts := [], laidByText := true, laidKinds := [.data], laidTests := true, laidLooks := .later }
def MeanLaterCardSaid : Prop := Claim7.holds Tryd.pinned (.plain (OpenSpec.ofChange meanLaterSpec)) meanLaterCard

/-- THE TIED CARD OF 'watershedkeep.MeanAdds'. -/
def meanAddsCard : Claim7 := { stood := { row := meanAddsRow, standIns := [], harness := (true, "e9a8fd604a51e15856effb0a19d24765d5131a69d51726de0e676d9b17878def"), looks := true }, kinds := [], alts := [], laidByText := true, laidKinds := [.data], laidTests := true, laidLooks := .later }
def MeanAddsCardSaid : Prop := Claim7.holds Tryd.pinned (.plain (OpenSpec.ofChange meanAddsSpec)) meanAddsCard

/-- THE SECOND FORM's CARD OF 'watershedkeep.MeanNone'. -/
def meanNoneUptoCard : Claim7 := { stood := { row := meanNoneUptoRow, standIns := [], harness := (true, "e9a8fd604a51e15856effb0a19d24765d5131a69d51726de0e676d9b17878def"), looks := true }, kinds := [], alts := [], laidByText := true, laidKinds := [.data], laidTests := true, laidLooks := .later }
def MeanNoneUptoCardSaid : Prop := Claim7.holds Tryd.pinned (.plain (OpenSpec.upto meanNoneSpec)) meanNoneUptoCard

/-- THE SECOND FORM's CARD OF 'watershedkeep.MeanLater'. -/
def meanLaterUptoCard : Claim7 := { stood := { row := meanLaterUptoRow, standIns := [], harness := (true, "e9a8fd604a51e15856effb0a19d24765d5131a69d51726de0e676d9b17878def"), looks := true }, kinds := [], alts := [], laidByText := true, laidKinds := [.data], laidTests := true, laidLooks := .later }
def MeanLaterUptoCardSaid : Prop := Claim7.holds Tryd.pinned (.plain (OpenSpec.upto meanLaterSpec)) meanLaterUptoCard

/-- THE SECOND FORM's CARD OF 'watershedkeep.MeanAdds'. -/
def meanAddsUptoCard : Claim7 := { stood := { row := meanAddsUptoRow, standIns := [], harness := (true, "e9a8fd604a51e15856effb0a19d24765d5131a69d51726de0e676d9b17878def"), looks := true }, kinds := [], alts := [], laidByText := true, laidKinds := [.data], laidTests := true, laidLooks := .later }
def MeanAddsUptoCardSaid : Prop := Claim7.holds Tryd.pinned (.plain (OpenSpec.upto meanAddsSpec)) meanAddsUptoCard
end Rows
end Go.Proofs.YtnhjpicdijeagaaDoor
