/-
  DERIVED. GIVEN WITH THE SEED: THE CARDS: each row of YtdlhfddmbdbedaaDoorRows.lean that lists a variable, with what it lists TIED to the program's text (the seventh form; the later family's looks); each row that meets fmt, with fmt's text TOLD by the authors' own Lean function (tested against real Go, not proved from fmt's source: count such statements apart). THE CARD IS WHAT COUNTS. Prove the row's statement (the work); the ties are given (YtdlhfddmbdbedaaDoorTie.lean); close each card by the builder's one call (the guide's Derived/Test/ToyasCard.lean, 'card_holds'). Laid BY PROGRAM, IN A SANDBOX (cutbox-door.mjs). By AI agents, Wed Nov 11 2026. No macro, syntax, notation, axiom, sorry.
-/
import Derived.Test.YtdlhfddmbdbedaaDoorRows
import GoSem.ClaimSeven
namespace Go.Proofs.YtdlhfddmbdbedaaDoor
namespace Rows

/-- THE TIED CARD OF 'watershedkeep.FixedLattice'. -/
def fixedLatticeCard : Claim7 := { stood := { row := fixedLatticeRow, standIns := [], harness := (true, "95f6ea9d403f7937751d645b60a9924f7afd7c18e9047aef24e3dc8f01e8eb85"), looks := false }, kinds := [], alts := [], laidByText := true, laidKinds := [.data], laidTests := true, laidLooks := .later }
def FixedLatticeCardSaid : Prop := Claim7.holds Tryd.pinned (.plain (OpenSpec.ofChange fixedLatticeSpec)) fixedLatticeCard

/-- THE TIED CARD OF 'watershedkeep.FixedKleene'. -/
def fixedKleeneCard : Claim7 := { stood := { row := fixedKleeneRow, standIns := [], harness := (true, "95f6ea9d403f7937751d645b60a9924f7afd7c18e9047aef24e3dc8f01e8eb85"), looks := false }, kinds := [], alts := [], laidByText := true, laidKinds := [.data], laidTests := true, laidLooks := .later }
def FixedKleeneCardSaid : Prop := Claim7.holds Tryd.pinned (.plain (OpenSpec.ofChange fixedKleeneSpec)) fixedKleeneCard

/-- THE TIED CARD OF 'watershedkeep.MobiusAlgebra'. -/
def mobiusAlgebraCard : Claim7 := { stood := { row := mobiusAlgebraRow, standIns := [], harness := (true, "95f6ea9d403f7937751d645b60a9924f7afd7c18e9047aef24e3dc8f01e8eb85"), looks := false }, kinds := [], alts := [], laidByText := true, laidKinds := [.data], laidTests := true, laidLooks := .later }
def MobiusAlgebraCardSaid : Prop := Claim7.holds Tryd.pinned (.plain (OpenSpec.ofChange mobiusAlgebraSpec)) mobiusAlgebraCard

/-- THE TIED CARD OF 'watershedkeep.MobiusTurns'. -/
def mobiusTurnsCard : Claim7 := { stood := { row := mobiusTurnsRow, standIns := [], harness := (true, "95f6ea9d403f7937751d645b60a9924f7afd7c18e9047aef24e3dc8f01e8eb85"), looks := false }, kinds := [], alts := [], laidByText := true, laidKinds := [.data], laidTests := true, laidLooks := .later }
def MobiusTurnsCardSaid : Prop := Claim7.holds Tryd.pinned (.plain (OpenSpec.ofChange mobiusTurnsSpec)) mobiusTurnsCard

/-- THE TIED CARD OF 'watershedkeep.MobiusRota'. -/
def mobiusRotaCard : Claim7 := { stood := { row := mobiusRotaRow, standIns := [], harness := (true, "95f6ea9d403f7937751d645b60a9924f7afd7c18e9047aef24e3dc8f01e8eb85"), looks := false }, kinds := [], alts := [], laidByText := true, laidKinds := [.data], laidTests := true, laidLooks := .later }
def MobiusRotaCardSaid : Prop := Claim7.holds Tryd.pinned (.plain (OpenSpec.ofChange mobiusRotaSpec)) mobiusRotaCard

/-- THE TIED CARD OF 'watershedkeep.MobiusDual'. -/
def mobiusDualCard : Claim7 := { stood := { row := mobiusDualRow, standIns := [], harness := (true, "95f6ea9d403f7937751d645b60a9924f7afd7c18e9047aef24e3dc8f01e8eb85"), looks := false }, kinds := [], alts := [], laidByText := true, laidKinds := [.data], laidTests := true, laidLooks := .later }
def MobiusDualCardSaid : Prop := Claim7.holds Tryd.pinned (.plain (OpenSpec.ofChange mobiusDualSpec)) mobiusDualCard

/-- THE TIED CARD OF 'watershedkeep.MobiusHall'. -/
def mobiusHallCard : Claim7 := { stood := { row := mobiusHallRow, standIns := [], harness := (true, "95f6ea9d403f7937751d645b60a9924f7afd7c18e9047aef24e3dc8f01e8eb85"), looks := false }, kinds := [], alts := [], laidByText := true, laidKinds := [.data], laidTests := true, laidLooks := .later }
def MobiusHallCardSaid : Prop := Claim7.holds Tryd.pinned (.plain (OpenSpec.ofChange mobiusHallSpec)) mobiusHallCard

/-- THE TIED CARD OF 'watershedkeep.MobiusProducts'. -/
def mobiusProductsCard : Claim7 := { stood := { row := mobiusProductsRow, standIns := [], harness := (true, "95f6ea9d403f7937751d645b60a9924f7afd7c18e9047aef24e3dc8f01e8eb85"), looks := false }, kinds := [], alts := [], laidByText := true, laidKinds := [.data], laidTests := true, laidLooks := .later }
def MobiusProductsCardSaid : Prop := Claim7.holds Tryd.pinned (.plain (OpenSpec.ofChange mobiusProductsSpec)) mobiusProductsCard

/-- THE TIED CARD OF 'watershedkeep.MobiusWeisner'. -/
def mobiusWeisnerCard : Claim7 := { stood := { row := mobiusWeisnerRow, standIns := [], harness := (true, "95f6ea9d403f7937751d645b60a9924f7afd7c18e9047aef24e3dc8f01e8eb85"), looks := false }, kinds := [], alts := [], laidByText := true, laidKinds := [.data], laidTests := true, laidLooks := .later }
def MobiusWeisnerCardSaid : Prop := Claim7.holds Tryd.pinned (.plain (OpenSpec.ofChange mobiusWeisnerSpec)) mobiusWeisnerCard

/-- THE TIED CARD OF 'watershedkeep.MobiusAtoms'. -/
def mobiusAtomsCard : Claim7 := { stood := { row := mobiusAtomsRow, standIns := [], harness := (true, "95f6ea9d403f7937751d645b60a9924f7afd7c18e9047aef24e3dc8f01e8eb85"), looks := false }, kinds := [], alts := [], laidByText := true, laidKinds := [.data], laidTests := true, laidLooks := .later }
def MobiusAtomsCardSaid : Prop := Claim7.holds Tryd.pinned (.plain (OpenSpec.ofChange mobiusAtomsSpec)) mobiusAtomsCard

/-- THE TIED CARD OF 'watershedkeep.DownsSplits'. -/
def downsSplitsCard : Claim7 := { stood := { row := downsSplitsRow, standIns := [], harness := (true, "95f6ea9d403f7937751d645b60a9924f7afd7c18e9047aef24e3dc8f01e8eb85"), looks := false }, kinds := [], alts := [], laidByText := true, laidKinds := [.data], laidTests := true, laidLooks := .later }
def DownsSplitsCardSaid : Prop := Claim7.holds Tryd.pinned (.plain (OpenSpec.ofChange downsSplitsSpec)) downsSplitsCard

/-- THE TIED CARD OF 'watershedkeep.DownsTurned'. -/
def downsTurnedCard : Claim7 := { stood := { row := downsTurnedRow, standIns := [], harness := (true, "95f6ea9d403f7937751d645b60a9924f7afd7c18e9047aef24e3dc8f01e8eb85"), looks := false }, kinds := [], alts := [], laidByText := true, laidKinds := [.data], laidTests := true, laidLooks := .later }
def DownsTurnedCardSaid : Prop := Claim7.holds Tryd.pinned (.plain (OpenSpec.ofChange downsTurnedSpec)) downsTurnedCard

/-- THE SECOND FORM's CARD OF 'watershedkeep.FixedLattice'. -/
def fixedLatticeUptoCard : Claim7 := { stood := { row := fixedLatticeUptoRow, standIns := [], harness := (true, "95f6ea9d403f7937751d645b60a9924f7afd7c18e9047aef24e3dc8f01e8eb85"), looks := false }, kinds := [], alts := [], laidByText := true, laidKinds := [.data], laidTests := true, laidLooks := .later }
def FixedLatticeUptoCardSaid : Prop := Claim7.holds Tryd.pinned (.plain (OpenSpec.upto fixedLatticeSpec)) fixedLatticeUptoCard

/-- THE SECOND FORM's CARD OF 'watershedkeep.FixedKleene'. -/
def fixedKleeneUptoCard : Claim7 := { stood := { row := fixedKleeneUptoRow, standIns := [], harness := (true, "95f6ea9d403f7937751d645b60a9924f7afd7c18e9047aef24e3dc8f01e8eb85"), looks := false }, kinds := [], alts := [], laidByText := true, laidKinds := [.data], laidTests := true, laidLooks := .later }
def FixedKleeneUptoCardSaid : Prop := Claim7.holds Tryd.pinned (.plain (OpenSpec.upto fixedKleeneSpec)) fixedKleeneUptoCard

/-- THE SECOND FORM's CARD OF 'watershedkeep.MobiusAlgebra'. -/
def mobiusAlgebraUptoCard : Claim7 := { stood := { row := mobiusAlgebraUptoRow, standIns := [], harness := (true, "95f6ea9d403f7937751d645b60a9924f7afd7c18e9047aef24e3dc8f01e8eb85"), looks := false }, kinds := [], alts := [], laidByText := true, laidKinds := [.data], laidTests := true, laidLooks := .later }
def MobiusAlgebraUptoCardSaid : Prop := Claim7.holds Tryd.pinned (.plain (OpenSpec.upto mobiusAlgebraSpec)) mobiusAlgebraUptoCard

/-- THE SECOND FORM's CARD OF 'watershedkeep.MobiusTurns'. -/
def mobiusTurnsUptoCard : Claim7 := { stood := { row := mobiusTurnsUptoRow, standIns := [], harness := (true, "95f6ea9d403f7937751d645b60a9924f7afd7c18e9047aef24e3dc8f01e8eb85"), looks := false }, kinds := [], alts := [], laidByText := true, laidKinds := [.data], laidTests := true, laidLooks := .later }
def MobiusTurnsUptoCardSaid : Prop := Claim7.holds Tryd.pinned (.plain (OpenSpec.upto mobiusTurnsSpec)) mobiusTurnsUptoCard

/-- THE SECOND FORM's CARD OF 'watershedkeep.MobiusRota'. -/
def mobiusRotaUptoCard : Claim7 := { stood := { row := mobiusRotaUptoRow, standIns := [], harness := (true, "95f6ea9d403f7937751d645b60a9924f7afd7c18e9047aef24e3dc8f01e8eb85"), looks := false }, kinds := [], alts := [], laidByText := true, laidKinds := [.data], laidTests := true, laidLooks := .later }
def MobiusRotaUptoCardSaid : Prop := Claim7.holds Tryd.pinned (.plain (OpenSpec.upto mobiusRotaSpec)) mobiusRotaUptoCard

/-- THE SECOND FORM's CARD OF 'watershedkeep.MobiusDual'. -/
def mobiusDualUptoCard : Claim7 := { stood := { row := mobiusDualUptoRow, standIns := [], harness := (true, "95f6ea9d403f7937751d645b60a9924f7afd7c18e9047aef24e3dc8f01e8eb85"), looks := false }, kinds := [], alts := [], laidByText := true, laidKinds := [.data], laidTests := true, laidLooks := .later }
def MobiusDualUptoCardSaid : Prop := Claim7.holds Tryd.pinned (.plain (OpenSpec.upto mobiusDualSpec)) mobiusDualUptoCard

/-- THE SECOND FORM's CARD OF 'watershedkeep.MobiusHall'. -/
def mobiusHallUptoCard : Claim7 := { stood := { row := mobiusHallUptoRow, standIns := [], harness := (true, "95f6ea9d403f7937751d645b60a9924f7afd7c18e9047aef24e3dc8f01e8eb85"), looks := false }, kinds := [], alts := [], laidByText := true, laidKinds := [.data], laidTests := true, laidLooks := .later }
def MobiusHallUptoCardSaid : Prop := Claim7.holds Tryd.pinned (.plain (OpenSpec.upto mobiusHallSpec)) mobiusHallUptoCard

/-- THE SECOND FORM's CARD OF 'watershedkeep.MobiusProducts'. -/
def mobiusProductsUptoCard : Claim7 := { stood := { row := mobiusProductsUptoRow, standIns := [], harness := (true, "95f6ea9d403f7937751d645b60a9924f7afd7c18e9047aef24e3dc8f01e8eb85"), looks := false }, kinds := [], alts := [], laidByText := true, laidKinds := [.data], laidTests := true, laidLooks := .later }
def MobiusProductsUptoCardSaid : Prop := Claim7.holds Tryd.pinned (.plain (OpenSpec.upto mobiusProductsSpec)) mobiusProductsUptoCard

/-- THE SECOND FORM's CARD OF 'watershedkeep.MobiusWeisner'. -/
def mobiusWeisnerUptoCard : Claim7 := { stood := { row := mobiusWeisnerUptoRow, standIns := [], harness := (true, "95f6ea9d403f7937751d645b60a9924f7afd7c18e9047aef24e3dc8f01e8eb85"), looks := false }, kinds := [], alts := [], laidByText := true, laidKinds := [.data], laidTests := true, laidLooks := .later }
def MobiusWeisnerUptoCardSaid : Prop := Claim7.holds Tryd.pinned (.plain (OpenSpec.upto mobiusWeisnerSpec)) mobiusWeisnerUptoCard

/-- THE SECOND FORM's CARD OF 'watershedkeep.MobiusAtoms'. -/
def mobiusAtomsUptoCard : Claim7 := { stood := { row := mobiusAtomsUptoRow, standIns := [], harness := (true, "95f6ea9d403f7937751d645b60a9924f7afd7c18e9047aef24e3dc8f01e8eb85"), looks := false }, kinds := [], alts := [], laidByText := true, laidKinds := [.data], laidTests := true, laidLooks := .later }
def MobiusAtomsUptoCardSaid : Prop := Claim7.holds Tryd.pinned (.plain (OpenSpec.upto mobiusAtomsSpec)) mobiusAtomsUptoCard

/-- THE SECOND FORM's CARD OF 'watershedkeep.DownsSplits'. -/
def downsSplitsUptoCard : Claim7 := { stood := { row := downsSplitsUptoRow, standIns := [], harness := (true, "95f6ea9d403f7937751d645b60a9924f7afd7c18e9047aef24e3dc8f01e8eb85"), looks := false }, kinds := [], alts := [], laidByText := true, laidKinds := [.data], laidTests := true, laidLooks := .later }
def DownsSplitsUptoCardSaid : Prop := Claim7.holds Tryd.pinned (.plain (OpenSpec.upto downsSplitsSpec)) downsSplitsUptoCard

/-- THE SECOND FORM's CARD OF 'watershedkeep.DownsTurned'. -/
def downsTurnedUptoCard : Claim7 := { stood := { row := downsTurnedUptoRow, standIns := [], harness := (true, "95f6ea9d403f7937751d645b60a9924f7afd7c18e9047aef24e3dc8f01e8eb85"), looks := false }, kinds := [], alts := [], laidByText := true, laidKinds := [.data], laidTests := true, laidLooks := .later }
def DownsTurnedUptoCardSaid : Prop := Claim7.holds Tryd.pinned (.plain (OpenSpec.upto downsTurnedSpec)) downsTurnedUptoCard
end Rows
end Go.Proofs.YtdlhfddmbdbedaaDoor
