/-
  DERIVED. GIVEN WITH THE SEED: THE CARDS: each row of YtiepnpfjlknkoaaDoorRows.lean that lists a variable, with what it lists TIED to the program's text (the seventh form; the later family's looks); each row that meets fmt, with fmt's text TOLD by the authors' own Lean function (tested against real Go, not proved from fmt's source: count such statements apart). THE CARD IS WHAT COUNTS. Prove the row's statement (the work); the ties are given (YtiepnpfjlknkoaaDoorTie.lean); close each card by the builder's one call (the guide's Derived/Test/ToyasCard.lean, 'card_holds'). Laid BY PROGRAM, IN A SANDBOX (cutbox-door.mjs). By AI agents, Wed Nov 11 2026. No macro, syntax, notation, axiom, sorry.
-/
import Derived.Test.YtiepnpfjlknkoaaDoorRows
import GoSem.ClaimSeven
namespace Go.Proofs.YtiepnpfjlknkoaaDoor
namespace Rows

/-- THE TIED CARD OF 'watershedkeep.PolarArmstrong'. -/
def polarArmstrongCard : Claim7 := { stood := { row := polarArmstrongRow, standIns := [], harness := (true, "cbd544c05f2c0fdd660505a86de7bf34820ac41be0754ffecfa8b6dc1818dc70"), looks := false }, kinds := [], alts := [], laidByText := true, laidKinds := [.data], laidTests := true, laidLooks := .later }
def PolarArmstrongCardSaid : Prop := Claim7.holds Tryd.pinned (.plain (OpenSpec.ofChange polarArmstrongSpec)) polarArmstrongCard

/-- THE TIED CARD OF 'watershedkeep.PolarGalois'. -/
def polarGaloisCard : Claim7 := { stood := { row := polarGaloisRow, standIns := [], harness := (true, "cbd544c05f2c0fdd660505a86de7bf34820ac41be0754ffecfa8b6dc1818dc70"), looks := false }, kinds := [], alts := [], laidByText := true, laidKinds := [.data], laidTests := true, laidLooks := .later }
def PolarGaloisCardSaid : Prop := Claim7.holds Tryd.pinned (.plain (OpenSpec.ofChange polarGaloisSpec)) polarGaloisCard

/-- THE TIED CARD OF 'watershedkeep.PolarCloses'. -/
def polarClosesCard : Claim7 := { stood := { row := polarClosesRow, standIns := [], harness := (true, "cbd544c05f2c0fdd660505a86de7bf34820ac41be0754ffecfa8b6dc1818dc70"), looks := false }, kinds := [], alts := [], laidByText := true, laidKinds := [.data], laidTests := true, laidLooks := .later }
def PolarClosesCardSaid : Prop := Claim7.holds Tryd.pinned (.plain (OpenSpec.ofChange polarClosesSpec)) polarClosesCard

/-- THE TIED CARD OF 'watershedkeep.OrderSzpilrajn'. -/
def orderSzpilrajnCard : Claim7 := { stood := { row := orderSzpilrajnRow, standIns := [], harness := (true, "cbd544c05f2c0fdd660505a86de7bf34820ac41be0754ffecfa8b6dc1818dc70"), looks := false }, kinds := [], alts := [], laidByText := true, laidKinds := [.data], laidTests := true, laidLooks := .later }
def OrderSzpilrajnCardSaid : Prop := Claim7.holds Tryd.pinned (.plain (OpenSpec.ofChange orderSzpilrajnSpec)) orderSzpilrajnCard

/-- THE TIED CARD OF 'watershedkeep.OrderLeast'. -/
def orderLeastCard : Claim7 := { stood := { row := orderLeastRow, standIns := [], harness := (true, "cbd544c05f2c0fdd660505a86de7bf34820ac41be0754ffecfa8b6dc1818dc70"), looks := false }, kinds := [], alts := [], laidByText := true, laidKinds := [.data], laidTests := true, laidLooks := .later }
def OrderLeastCardSaid : Prop := Claim7.holds Tryd.pinned (.plain (OpenSpec.ofChange orderLeastSpec)) orderLeastCard

/-- THE TIED CARD OF 'watershedkeep.OrderDual'. -/
def orderDualCard : Claim7 := { stood := { row := orderDualRow, standIns := [], harness := (true, "cbd544c05f2c0fdd660505a86de7bf34820ac41be0754ffecfa8b6dc1818dc70"), looks := false }, kinds := [], alts := [], laidByText := true, laidKinds := [.data], laidTests := true, laidLooks := .later }
def OrderDualCardSaid : Prop := Claim7.holds Tryd.pinned (.plain (OpenSpec.ofChange orderDualSpec)) orderDualCard

/-- THE TIED CARD OF 'watershedkeep.OrderHasse'. -/
def orderHasseCard : Claim7 := { stood := { row := orderHasseRow, standIns := [], harness := (true, "cbd544c05f2c0fdd660505a86de7bf34820ac41be0754ffecfa8b6dc1818dc70"), looks := false }, kinds := [], alts := [], laidByText := true, laidKinds := [.data], laidTests := true, laidLooks := .later }
def OrderHasseCardSaid : Prop := Claim7.holds Tryd.pinned (.plain (OpenSpec.ofChange orderHasseSpec)) orderHasseCard

/-- THE TIED CARD OF 'watershedkeep.OrderMirsky'. -/
def orderMirskyCard : Claim7 := { stood := { row := orderMirskyRow, standIns := [], harness := (true, "cbd544c05f2c0fdd660505a86de7bf34820ac41be0754ffecfa8b6dc1818dc70"), looks := false }, kinds := [], alts := [], laidByText := true, laidKinds := [.data], laidTests := true, laidLooks := .later }
def OrderMirskyCardSaid : Prop := Claim7.holds Tryd.pinned (.plain (OpenSpec.ofChange orderMirskySpec)) orderMirskyCard

/-- THE TIED CARD OF 'watershedkeep.DownsCloses'. -/
def downsClosesCard : Claim7 := { stood := { row := downsClosesRow, standIns := [], harness := (true, "cbd544c05f2c0fdd660505a86de7bf34820ac41be0754ffecfa8b6dc1818dc70"), looks := false }, kinds := [], alts := [], laidByText := true, laidKinds := [.data], laidTests := true, laidLooks := .later }
def DownsClosesCardSaid : Prop := Claim7.holds Tryd.pinned (.plain (OpenSpec.ofChange downsClosesSpec)) downsClosesCard

/-- THE TIED CARD OF 'watershedkeep.DownsAntichains'. -/
def downsAntichainsCard : Claim7 := { stood := { row := downsAntichainsRow, standIns := [], harness := (true, "cbd544c05f2c0fdd660505a86de7bf34820ac41be0754ffecfa8b6dc1818dc70"), looks := false }, kinds := [], alts := [], laidByText := true, laidKinds := [.data], laidTests := true, laidLooks := .later }
def DownsAntichainsCardSaid : Prop := Claim7.holds Tryd.pinned (.plain (OpenSpec.ofChange downsAntichainsSpec)) downsAntichainsCard

/-- THE TIED CARD OF 'watershedkeep.LatticeAlgebra'. -/
def latticeAlgebraCard : Claim7 := { stood := { row := latticeAlgebraRow, standIns := [], harness := (true, "cbd544c05f2c0fdd660505a86de7bf34820ac41be0754ffecfa8b6dc1818dc70"), looks := false }, kinds := [], alts := [], laidByText := true, laidKinds := [.data], laidTests := true, laidLooks := .later }
def LatticeAlgebraCardSaid : Prop := Claim7.holds Tryd.pinned (.plain (OpenSpec.ofChange latticeAlgebraSpec)) latticeAlgebraCard

/-- THE TIED CARD OF 'watershedkeep.LatticeBounds'. -/
def latticeBoundsCard : Claim7 := { stood := { row := latticeBoundsRow, standIns := [], harness := (true, "cbd544c05f2c0fdd660505a86de7bf34820ac41be0754ffecfa8b6dc1818dc70"), looks := false }, kinds := [], alts := [], laidByText := true, laidKinds := [.data], laidTests := true, laidLooks := .later }
def LatticeBoundsCardSaid : Prop := Claim7.holds Tryd.pinned (.plain (OpenSpec.ofChange latticeBoundsSpec)) latticeBoundsCard

/-- THE SECOND FORM's CARD OF 'watershedkeep.PolarArmstrong'. -/
def polarArmstrongUptoCard : Claim7 := { stood := { row := polarArmstrongUptoRow, standIns := [], harness := (true, "cbd544c05f2c0fdd660505a86de7bf34820ac41be0754ffecfa8b6dc1818dc70"), looks := false }, kinds := [], alts := [], laidByText := true, laidKinds := [.data], laidTests := true, laidLooks := .later }
def PolarArmstrongUptoCardSaid : Prop := Claim7.holds Tryd.pinned (.plain (OpenSpec.upto polarArmstrongSpec)) polarArmstrongUptoCard

/-- THE SECOND FORM's CARD OF 'watershedkeep.PolarGalois'. -/
def polarGaloisUptoCard : Claim7 := { stood := { row := polarGaloisUptoRow, standIns := [], harness := (true, "cbd544c05f2c0fdd660505a86de7bf34820ac41be0754ffecfa8b6dc1818dc70"), looks := false }, kinds := [], alts := [], laidByText := true, laidKinds := [.data], laidTests := true, laidLooks := .later }
def PolarGaloisUptoCardSaid : Prop := Claim7.holds Tryd.pinned (.plain (OpenSpec.upto polarGaloisSpec)) polarGaloisUptoCard

/-- THE SECOND FORM's CARD OF 'watershedkeep.PolarCloses'. -/
def polarClosesUptoCard : Claim7 := { stood := { row := polarClosesUptoRow, standIns := [], harness := (true, "cbd544c05f2c0fdd660505a86de7bf34820ac41be0754ffecfa8b6dc1818dc70"), looks := false }, kinds := [], alts := [], laidByText := true, laidKinds := [.data], laidTests := true, laidLooks := .later }
def PolarClosesUptoCardSaid : Prop := Claim7.holds Tryd.pinned (.plain (OpenSpec.upto polarClosesSpec)) polarClosesUptoCard

/-- THE SECOND FORM's CARD OF 'watershedkeep.OrderSzpilrajn'. -/
def orderSzpilrajnUptoCard : Claim7 := { stood := { row := orderSzpilrajnUptoRow, standIns := [], harness := (true, "cbd544c05f2c0fdd660505a86de7bf34820ac41be0754ffecfa8b6dc1818dc70"), looks := false }, kinds := [], alts := [], laidByText := true, laidKinds := [.data], laidTests := true, laidLooks := .later }
def OrderSzpilrajnUptoCardSaid : Prop := Claim7.holds Tryd.pinned (.plain (OpenSpec.upto orderSzpilrajnSpec)) orderSzpilrajnUptoCard

/-- THE SECOND FORM's CARD OF 'watershedkeep.OrderLeast'. -/
def orderLeastUptoCard : Claim7 := { stood := { row := orderLeastUptoRow, standIns := [], harness := (true, "cbd544c05f2c0fdd660505a86de7bf34820ac41be0754ffecfa8b6dc1818dc70"), looks := false }, kinds := [], alts := [], laidByText := true, laidKinds := [.data], laidTests := true, laidLooks := .later }
def OrderLeastUptoCardSaid : Prop := Claim7.holds Tryd.pinned (.plain (OpenSpec.upto orderLeastSpec)) orderLeastUptoCard

/-- THE SECOND FORM's CARD OF 'watershedkeep.OrderDual'. -/
def orderDualUptoCard : Claim7 := { stood := { row := orderDualUptoRow, standIns := [], harness := (true, "cbd544c05f2c0fdd660505a86de7bf34820ac41be0754ffecfa8b6dc1818dc70"), looks := false }, kinds := [], alts := [], laidByText := true, laidKinds := [.data], laidTests := true, laidLooks := .later }
def OrderDualUptoCardSaid : Prop := Claim7.holds Tryd.pinned (.plain (OpenSpec.upto orderDualSpec)) orderDualUptoCard

/-- THE SECOND FORM's CARD OF 'watershedkeep.OrderHasse'. -/
def orderHasseUptoCard : Claim7 := { stood := { row := orderHasseUptoRow, standIns := [], harness := (true, "cbd544c05f2c0fdd660505a86de7bf34820ac41be0754ffecfa8b6dc1818dc70"), looks := false }, kinds := [], alts := [], laidByText := true, laidKinds := [.data], laidTests := true, laidLooks := .later }
def OrderHasseUptoCardSaid : Prop := Claim7.holds Tryd.pinned (.plain (OpenSpec.upto orderHasseSpec)) orderHasseUptoCard

/-- THE SECOND FORM's CARD OF 'watershedkeep.OrderMirsky'. -/
def orderMirskyUptoCard : Claim7 := { stood := { row := orderMirskyUptoRow, standIns := [], harness := (true, "cbd544c05f2c0fdd660505a86de7bf34820ac41be0754ffecfa8b6dc1818dc70"), looks := false }, kinds := [], alts := [], laidByText := true, laidKinds := [.data], laidTests := true, laidLooks := .later }
def OrderMirskyUptoCardSaid : Prop := Claim7.holds Tryd.pinned (.plain (OpenSpec.upto orderMirskySpec)) orderMirskyUptoCard

/-- THE SECOND FORM's CARD OF 'watershedkeep.DownsCloses'. -/
def downsClosesUptoCard : Claim7 := { stood := { row := downsClosesUptoRow, standIns := [], harness := (true, "cbd544c05f2c0fdd660505a86de7bf34820ac41be0754ffecfa8b6dc1818dc70"), looks := false }, kinds := [], alts := [], laidByText := true, laidKinds := [.data], laidTests := true, laidLooks := .later }
def DownsClosesUptoCardSaid : Prop := Claim7.holds Tryd.pinned (.plain (OpenSpec.upto downsClosesSpec)) downsClosesUptoCard

/-- THE SECOND FORM's CARD OF 'watershedkeep.DownsAntichains'. -/
def downsAntichainsUptoCard : Claim7 := { stood := { row := downsAntichainsUptoRow, standIns := [], harness := (true, "cbd544c05f2c0fdd660505a86de7bf34820ac41be0754ffecfa8b6dc1818dc70"), looks := false }, kinds := [], alts := [], laidByText := true, laidKinds := [.data], laidTests := true, laidLooks := .later }
def DownsAntichainsUptoCardSaid : Prop := Claim7.holds Tryd.pinned (.plain (OpenSpec.upto downsAntichainsSpec)) downsAntichainsUptoCard

/-- THE SECOND FORM's CARD OF 'watershedkeep.LatticeAlgebra'. -/
def latticeAlgebraUptoCard : Claim7 := { stood := { row := latticeAlgebraUptoRow, standIns := [], harness := (true, "cbd544c05f2c0fdd660505a86de7bf34820ac41be0754ffecfa8b6dc1818dc70"), looks := false }, kinds := [], alts := [], laidByText := true, laidKinds := [.data], laidTests := true, laidLooks := .later }
def LatticeAlgebraUptoCardSaid : Prop := Claim7.holds Tryd.pinned (.plain (OpenSpec.upto latticeAlgebraSpec)) latticeAlgebraUptoCard

/-- THE SECOND FORM's CARD OF 'watershedkeep.LatticeBounds'. -/
def latticeBoundsUptoCard : Claim7 := { stood := { row := latticeBoundsUptoRow, standIns := [], harness := (true, "cbd544c05f2c0fdd660505a86de7bf34820ac41be0754ffecfa8b6dc1818dc70"), looks := false }, kinds := [], alts := [], laidByText := true, laidKinds := [.data], laidTests := true, laidLooks := .later }
def LatticeBoundsUptoCardSaid : Prop := Claim7.holds Tryd.pinned (.plain (OpenSpec.upto latticeBoundsSpec)) latticeBoundsUptoCard
end Rows
end Go.Proofs.YtiepnpfjlknkoaaDoor
