/-
  DERIVED. GIVEN WITH THE SEED: THE CARDS: each row of YtdbjfdjpmoackaaDoorRows.lean that lists a variable, with what it lists TIED to the program's text (the seventh form; the later family's looks); each row that meets fmt, with fmt's text TOLD by the authors' own Lean function (tested against real Go, not proved from fmt's source: count such statements apart). THE CARD IS WHAT COUNTS. Prove the row's statement (the work); the ties are given (YtdbjfdjpmoackaaDoorTie.lean); close each card by the builder's one call (the guide's Derived/Test/ToyasCard.lean, 'card_holds'). Laid BY PROGRAM, IN A SANDBOX (cutbox-door.mjs). By AI agents, Wed Nov 11 2026. No macro, syntax, notation, axiom, sorry.
-/
import Derived.Test.YtdbjfdjpmoackaaDoorRows
import GoSem.ClaimSeven
namespace Go.Proofs.YtdbjfdjpmoackaaDoor
namespace Rows

/-- THE TIED CARD OF 'watershedkeep.LatticeDual'. -/
def latticeDualCard : Claim7 := { stood := { row := latticeDualRow, standIns := [], harness := (true, "f7a6d2b8554754a98a473bd2733a624cf4bb6698be02ac50fe61eaa0509daf44"), looks := false }, kinds := [], alts := [], laidByText := true, laidKinds := [.data], laidTests := true, laidLooks := .later }
def LatticeDualCardSaid : Prop := Claim7.holds Tryd.pinned (.plain (OpenSpec.ofChange latticeDualSpec)) latticeDualCard

/-- THE TIED CARD OF 'watershedkeep.LatticeDistributes'. -/
def latticeDistributesCard : Claim7 := { stood := { row := latticeDistributesRow, standIns := [], harness := (true, "f7a6d2b8554754a98a473bd2733a624cf4bb6698be02ac50fe61eaa0509daf44"), looks := false }, kinds := [], alts := [], laidByText := true, laidKinds := [.data], laidTests := true, laidLooks := .later }
def LatticeDistributesCardSaid : Prop := Claim7.holds Tryd.pinned (.plain (OpenSpec.ofChange latticeDistributesSpec)) latticeDistributesCard

/-- THE TIED CARD OF 'watershedkeep.LatticeMedian'. -/
def latticeMedianCard : Claim7 := { stood := { row := latticeMedianRow, standIns := [], harness := (true, "f7a6d2b8554754a98a473bd2733a624cf4bb6698be02ac50fe61eaa0509daf44"), looks := false }, kinds := [], alts := [], laidByText := true, laidKinds := [.data], laidTests := true, laidLooks := .later }
def LatticeMedianCardSaid : Prop := Claim7.holds Tryd.pinned (.plain (OpenSpec.ofChange latticeMedianSpec)) latticeMedianCard

/-- THE TIED CARD OF 'watershedkeep.LatticeDedekind'. -/
def latticeDedekindCard : Claim7 := { stood := { row := latticeDedekindRow, standIns := [], harness := (true, "f7a6d2b8554754a98a473bd2733a624cf4bb6698be02ac50fe61eaa0509daf44"), looks := false }, kinds := [], alts := [], laidByText := true, laidKinds := [.data], laidTests := true, laidLooks := .later }
def LatticeDedekindCardSaid : Prop := Claim7.holds Tryd.pinned (.plain (OpenSpec.ofChange latticeDedekindSpec)) latticeDedekindCard

/-- THE TIED CARD OF 'watershedkeep.LatticeCancels'. -/
def latticeCancelsCard : Claim7 := { stood := { row := latticeCancelsRow, standIns := [], harness := (true, "f7a6d2b8554754a98a473bd2733a624cf4bb6698be02ac50fe61eaa0509daf44"), looks := false }, kinds := [], alts := [], laidByText := true, laidKinds := [.data], laidTests := true, laidLooks := .later }
def LatticeCancelsCardSaid : Prop := Claim7.holds Tryd.pinned (.plain (OpenSpec.ofChange latticeCancelsSpec)) latticeCancelsCard

/-- THE TIED CARD OF 'watershedkeep.LatticeGenerated'. -/
def latticeGeneratedCard : Claim7 := { stood := { row := latticeGeneratedRow, standIns := [], harness := (true, "f7a6d2b8554754a98a473bd2733a624cf4bb6698be02ac50fe61eaa0509daf44"), looks := false }, kinds := [], alts := [], laidByText := true, laidKinds := [.data], laidTests := true, laidLooks := .later }
def LatticeGeneratedCardSaid : Prop := Claim7.holds Tryd.pinned (.plain (OpenSpec.ofChange latticeGeneratedSpec)) latticeGeneratedCard

/-- THE TIED CARD OF 'watershedkeep.LatticeCloses'. -/
def latticeClosesCard : Claim7 := { stood := { row := latticeClosesRow, standIns := [], harness := (true, "f7a6d2b8554754a98a473bd2733a624cf4bb6698be02ac50fe61eaa0509daf44"), looks := false }, kinds := [], alts := [], laidByText := true, laidKinds := [.data], laidTests := true, laidLooks := .later }
def LatticeClosesCardSaid : Prop := Claim7.holds Tryd.pinned (.plain (OpenSpec.ofChange latticeClosesSpec)) latticeClosesCard

/-- THE TIED CARD OF 'watershedkeep.FixedTarski'. -/
def fixedTarskiCard : Claim7 := { stood := { row := fixedTarskiRow, standIns := [], harness := (true, "f7a6d2b8554754a98a473bd2733a624cf4bb6698be02ac50fe61eaa0509daf44"), looks := false }, kinds := [], alts := [], laidByText := true, laidKinds := [.data], laidTests := true, laidLooks := .later }
def FixedTarskiCardSaid : Prop := Claim7.holds Tryd.pinned (.plain (OpenSpec.ofChange fixedTarskiSpec)) fixedTarskiCard

/-- THE TIED CARD OF 'watershedkeep.FixedRolls'. -/
def fixedRollsCard : Claim7 := { stood := { row := fixedRollsRow, standIns := [], harness := (true, "f7a6d2b8554754a98a473bd2733a624cf4bb6698be02ac50fe61eaa0509daf44"), looks := false }, kinds := [], alts := [], laidByText := true, laidKinds := [.data], laidTests := true, laidLooks := .later }
def FixedRollsCardSaid : Prop := Claim7.holds Tryd.pinned (.plain (OpenSpec.ofChange fixedRollsSpec)) fixedRollsCard

/-- THE TIED CARD OF 'watershedkeep.FixedGrows'. -/
def fixedGrowsCard : Claim7 := { stood := { row := fixedGrowsRow, standIns := [], harness := (true, "f7a6d2b8554754a98a473bd2733a624cf4bb6698be02ac50fe61eaa0509daf44"), looks := false }, kinds := [], alts := [], laidByText := true, laidKinds := [.data], laidTests := true, laidLooks := .later }
def FixedGrowsCardSaid : Prop := Claim7.holds Tryd.pinned (.plain (OpenSpec.ofChange fixedGrowsSpec)) fixedGrowsCard

/-- THE TIED CARD OF 'watershedkeep.FixedDual'. -/
def fixedDualCard : Claim7 := { stood := { row := fixedDualRow, standIns := [], harness := (true, "f7a6d2b8554754a98a473bd2733a624cf4bb6698be02ac50fe61eaa0509daf44"), looks := false }, kinds := [], alts := [], laidByText := true, laidKinds := [.data], laidTests := true, laidLooks := .later }
def FixedDualCardSaid : Prop := Claim7.holds Tryd.pinned (.plain (OpenSpec.ofChange fixedDualSpec)) fixedDualCard

/-- THE TIED CARD OF 'watershedkeep.FixedGalois'. -/
def fixedGaloisCard : Claim7 := { stood := { row := fixedGaloisRow, standIns := [], harness := (true, "f7a6d2b8554754a98a473bd2733a624cf4bb6698be02ac50fe61eaa0509daf44"), looks := false }, kinds := [], alts := [], laidByText := true, laidKinds := [.data], laidTests := true, laidLooks := .later }
def FixedGaloisCardSaid : Prop := Claim7.holds Tryd.pinned (.plain (OpenSpec.ofChange fixedGaloisSpec)) fixedGaloisCard

/-- THE SECOND FORM's CARD OF 'watershedkeep.LatticeDual'. -/
def latticeDualUptoCard : Claim7 := { stood := { row := latticeDualUptoRow, standIns := [], harness := (true, "f7a6d2b8554754a98a473bd2733a624cf4bb6698be02ac50fe61eaa0509daf44"), looks := false }, kinds := [], alts := [], laidByText := true, laidKinds := [.data], laidTests := true, laidLooks := .later }
def LatticeDualUptoCardSaid : Prop := Claim7.holds Tryd.pinned (.plain (OpenSpec.upto latticeDualSpec)) latticeDualUptoCard

/-- THE SECOND FORM's CARD OF 'watershedkeep.LatticeDistributes'. -/
def latticeDistributesUptoCard : Claim7 := { stood := { row := latticeDistributesUptoRow, standIns := [], harness := (true, "f7a6d2b8554754a98a473bd2733a624cf4bb6698be02ac50fe61eaa0509daf44"), looks := false }, kinds := [], alts := [], laidByText := true, laidKinds := [.data], laidTests := true, laidLooks := .later }
def LatticeDistributesUptoCardSaid : Prop := Claim7.holds Tryd.pinned (.plain (OpenSpec.upto latticeDistributesSpec)) latticeDistributesUptoCard

/-- THE SECOND FORM's CARD OF 'watershedkeep.LatticeMedian'. -/
def latticeMedianUptoCard : Claim7 := { stood := { row := latticeMedianUptoRow, standIns := [], harness := (true, "f7a6d2b8554754a98a473bd2733a624cf4bb6698be02ac50fe61eaa0509daf44"), looks := false }, kinds := [], alts := [], laidByText := true, laidKinds := [.data], laidTests := true, laidLooks := .later }
def LatticeMedianUptoCardSaid : Prop := Claim7.holds Tryd.pinned (.plain (OpenSpec.upto latticeMedianSpec)) latticeMedianUptoCard

/-- THE SECOND FORM's CARD OF 'watershedkeep.LatticeDedekind'. -/
def latticeDedekindUptoCard : Claim7 := { stood := { row := latticeDedekindUptoRow, standIns := [], harness := (true, "f7a6d2b8554754a98a473bd2733a624cf4bb6698be02ac50fe61eaa0509daf44"), looks := false }, kinds := [], alts := [], laidByText := true, laidKinds := [.data], laidTests := true, laidLooks := .later }
def LatticeDedekindUptoCardSaid : Prop := Claim7.holds Tryd.pinned (.plain (OpenSpec.upto latticeDedekindSpec)) latticeDedekindUptoCard

/-- THE SECOND FORM's CARD OF 'watershedkeep.LatticeCancels'. -/
def latticeCancelsUptoCard : Claim7 := { stood := { row := latticeCancelsUptoRow, standIns := [], harness := (true, "f7a6d2b8554754a98a473bd2733a624cf4bb6698be02ac50fe61eaa0509daf44"), looks := false }, kinds := [], alts := [], laidByText := true, laidKinds := [.data], laidTests := true, laidLooks := .later }
def LatticeCancelsUptoCardSaid : Prop := Claim7.holds Tryd.pinned (.plain (OpenSpec.upto latticeCancelsSpec)) latticeCancelsUptoCard

/-- THE SECOND FORM's CARD OF 'watershedkeep.LatticeGenerated'. -/
def latticeGeneratedUptoCard : Claim7 := { stood := { row := latticeGeneratedUptoRow, standIns := [], harness := (true, "f7a6d2b8554754a98a473bd2733a624cf4bb6698be02ac50fe61eaa0509daf44"), looks := false }, kinds := [], alts := [], laidByText := true, laidKinds := [.data], laidTests := true, laidLooks := .later }
def LatticeGeneratedUptoCardSaid : Prop := Claim7.holds Tryd.pinned (.plain (OpenSpec.upto latticeGeneratedSpec)) latticeGeneratedUptoCard

/-- THE SECOND FORM's CARD OF 'watershedkeep.LatticeCloses'. -/
def latticeClosesUptoCard : Claim7 := { stood := { row := latticeClosesUptoRow, standIns := [], harness := (true, "f7a6d2b8554754a98a473bd2733a624cf4bb6698be02ac50fe61eaa0509daf44"), looks := false }, kinds := [], alts := [], laidByText := true, laidKinds := [.data], laidTests := true, laidLooks := .later }
def LatticeClosesUptoCardSaid : Prop := Claim7.holds Tryd.pinned (.plain (OpenSpec.upto latticeClosesSpec)) latticeClosesUptoCard

/-- THE SECOND FORM's CARD OF 'watershedkeep.FixedTarski'. -/
def fixedTarskiUptoCard : Claim7 := { stood := { row := fixedTarskiUptoRow, standIns := [], harness := (true, "f7a6d2b8554754a98a473bd2733a624cf4bb6698be02ac50fe61eaa0509daf44"), looks := false }, kinds := [], alts := [], laidByText := true, laidKinds := [.data], laidTests := true, laidLooks := .later }
def FixedTarskiUptoCardSaid : Prop := Claim7.holds Tryd.pinned (.plain (OpenSpec.upto fixedTarskiSpec)) fixedTarskiUptoCard

/-- THE SECOND FORM's CARD OF 'watershedkeep.FixedRolls'. -/
def fixedRollsUptoCard : Claim7 := { stood := { row := fixedRollsUptoRow, standIns := [], harness := (true, "f7a6d2b8554754a98a473bd2733a624cf4bb6698be02ac50fe61eaa0509daf44"), looks := false }, kinds := [], alts := [], laidByText := true, laidKinds := [.data], laidTests := true, laidLooks := .later }
def FixedRollsUptoCardSaid : Prop := Claim7.holds Tryd.pinned (.plain (OpenSpec.upto fixedRollsSpec)) fixedRollsUptoCard

/-- THE SECOND FORM's CARD OF 'watershedkeep.FixedGrows'. -/
def fixedGrowsUptoCard : Claim7 := { stood := { row := fixedGrowsUptoRow, standIns := [], harness := (true, "f7a6d2b8554754a98a473bd2733a624cf4bb6698be02ac50fe61eaa0509daf44"), looks := false }, kinds := [], alts := [], laidByText := true, laidKinds := [.data], laidTests := true, laidLooks := .later }
def FixedGrowsUptoCardSaid : Prop := Claim7.holds Tryd.pinned (.plain (OpenSpec.upto fixedGrowsSpec)) fixedGrowsUptoCard

/-- THE SECOND FORM's CARD OF 'watershedkeep.FixedDual'. -/
def fixedDualUptoCard : Claim7 := { stood := { row := fixedDualUptoRow, standIns := [], harness := (true, "f7a6d2b8554754a98a473bd2733a624cf4bb6698be02ac50fe61eaa0509daf44"), looks := false }, kinds := [], alts := [], laidByText := true, laidKinds := [.data], laidTests := true, laidLooks := .later }
def FixedDualUptoCardSaid : Prop := Claim7.holds Tryd.pinned (.plain (OpenSpec.upto fixedDualSpec)) fixedDualUptoCard

/-- THE SECOND FORM's CARD OF 'watershedkeep.FixedGalois'. -/
def fixedGaloisUptoCard : Claim7 := { stood := { row := fixedGaloisUptoRow, standIns := [], harness := (true, "f7a6d2b8554754a98a473bd2733a624cf4bb6698be02ac50fe61eaa0509daf44"), looks := false }, kinds := [], alts := [], laidByText := true, laidKinds := [.data], laidTests := true, laidLooks := .later }
def FixedGaloisUptoCardSaid : Prop := Claim7.holds Tryd.pinned (.plain (OpenSpec.upto fixedGaloisSpec)) fixedGaloisUptoCard
end Rows
end Go.Proofs.YtdbjfdjpmoackaaDoor
