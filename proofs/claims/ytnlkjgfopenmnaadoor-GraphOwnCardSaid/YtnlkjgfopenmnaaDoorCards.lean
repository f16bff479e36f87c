/-
  DERIVED. GIVEN WITH THE SEED: THE CARDS: each row of YtnlkjgfopenmnaaDoorRows.lean that lists a variable, with what it lists TIED to the program's text (the seventh form; the later family's looks); each row that meets fmt, with fmt's text TOLD by the authors' own Lean function (tested against real Go, not proved from fmt's source: count such statements apart). THE CARD IS WHAT COUNTS. Prove the row's statement (the work); the ties are given (YtnlkjgfopenmnaaDoorTie.lean); close each card by the builder's one call (the guide's Derived/Test/ToyasCard.lean, 'card_holds'). Laid BY PROGRAM, IN A SANDBOX (cutbox-door.mjs). By AI agents, Wed Nov 11 2026. No macro, syntax, notation, axiom, sorry.
-/
import Derived.Test.YtnlkjgfopenmnaaDoorRows
import GoSem.ClaimSeven
namespace Go.Proofs.YtnlkjgfopenmnaaDoor
namespace Rows

/-- THE TIED CARD OF 'watershedkeep.GraphForward'. -/
def graphForwardCard : Claim7 := { stood := { row := graphForwardRow, standIns := [], harness := (true, "53aaabe498ee24901d841402e858b9bdaa2b8a79f61746a2a730730b093e8b9c"), looks := false }, kinds := [], alts := [], laidByText := true, laidKinds := [.data], laidTests := true, laidLooks := .later }
def GraphForwardCardSaid : Prop := Claim7.holds Tryd.pinned (.plain (OpenSpec.ofChange graphForwardSpec)) graphForwardCard

/-- THE TIED CARD OF 'watershedkeep.GraphRenamed'. -/
def graphRenamedCard : Claim7 := { stood := { row := graphRenamedRow, standIns := [], harness := (true, "53aaabe498ee24901d841402e858b9bdaa2b8a79f61746a2a730730b093e8b9c"), looks := false }, kinds := [], alts := [], laidByText := true, laidKinds := [.data], laidTests := true, laidLooks := .later }
def GraphRenamedCardSaid : Prop := Claim7.holds Tryd.pinned (.plain (OpenSpec.ofChange graphRenamedSpec)) graphRenamedCard

/-- THE TIED CARD OF 'watershedkeep.GraphOwn'. -/
def graphOwnCard : Claim7 := { stood := { row := graphOwnRow, standIns := [], harness := (true, "53aaabe498ee24901d841402e858b9bdaa2b8a79f61746a2a730730b093e8b9c"), looks := false }, kinds := [], alts := [], laidByText := true, laidKinds := [.data], laidTests := true, laidLooks := .later }
def GraphOwnCardSaid : Prop := Claim7.holds Tryd.pinned (.plain (OpenSpec.ofChange graphOwnSpec)) graphOwnCard

/-- THE SECOND FORM's CARD OF 'watershedkeep.GraphForward'. -/
def graphForwardUptoCard : Claim7 := { stood := { row := graphForwardUptoRow, standIns := [], harness := (true, "53aaabe498ee24901d841402e858b9bdaa2b8a79f61746a2a730730b093e8b9c"), looks := false }, kinds := [], alts := [], laidByText := true, laidKinds := [.data], laidTests := true, laidLooks := .later }
def GraphForwardUptoCardSaid : Prop := Claim7.holds Tryd.pinned (.plain (OpenSpec.upto graphForwardSpec)) graphForwardUptoCard

/-- THE SECOND FORM's CARD OF 'watershedkeep.GraphRenamed'. -/
def graphRenamedUptoCard : Claim7 := { stood := { row := graphRenamedUptoRow, standIns := [], harness := (true, "53aaabe498ee24901d841402e858b9bdaa2b8a79f61746a2a730730b093e8b9c"), looks := false }, kinds := [], alts := [], laidByText := true, laidKinds := [.data], laidTests := true, laidLooks := .later }
def GraphRenamedUptoCardSaid : Prop := Claim7.holds Tryd.pinned (.plain (OpenSpec.upto graphRenamedSpec)) graphRenamedUptoCard

/-- THE SECOND FORM's CARD OF 'watershedkeep.GraphOwn'. -/
def graphOwnUptoCard : Claim7 := { stood := { row := graphOwnUptoRow, standIns := [], harness := (true, "53aaabe498ee24901d841402e858b9bdaa2b8a79f61746a2a730730b093e8b9c"), looks := false }, kinds := [], alts := [], laidByText := true, laidKinds := [.data], laidTests := true, laidLooks := .later }
def GraphOwnUptoCardSaid : Prop := Claim7.holds Tryd.pinned (.plain (OpenSpec.upto graphOwnSpec)) graphOwnUptoCard
end Rows
end Go.Proofs.YtnlkjgfopenmnaaDoor
