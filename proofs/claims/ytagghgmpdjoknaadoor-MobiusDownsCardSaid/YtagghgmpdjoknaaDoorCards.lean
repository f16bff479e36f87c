/-
  DERIVED. GIVEN WITH THE SEED: THE CARDS: each row of YtagghgmpdjoknaaDoorRows.lean that lists a variable, with what it lists TIED to the program's text (the seventh form; the later family's looks); each row that meets fmt, with fmt's text TOLD by the authors' own Lean function (tested against real Go, not proved from fmt's source: count such statements apart). THE CARD IS WHAT COUNTS. Prove the row's statement (the work); the ties are given (YtagghgmpdjoknaaDoorTie.lean); close each card by the builder's one call (the guide's Derived/Test/ToyasCard.lean, 'card_holds'). Laid BY PROGRAM, IN A SANDBOX (cutbox-door.mjs). By AI agents, Wed Nov 11 2026. No macro, syntax, notation, axiom, sorry.
-/
import Derived.Test.YtagghgmpdjoknaaDoorRows
import GoSem.ClaimSeven
namespace Go.Proofs.YtagghgmpdjoknaaDoor
namespace Rows

/-- THE TIED CARD OF 'watershedkeep.MobiusHall'. -/
def mobiusHallCard : Claim7 := { stood := { row := mobiusHallRow, standIns := [], harness := (true, "b73b6f32d8bacf79b109d1a869f14eaafeec458d4d840f7ceaa2738719a4935f"), looks := false }, kinds := [], alts := [], laidByText := true, laidKinds := [.data], laidTests := true, laidLooks := .later }
def MobiusHallCardSaid : Prop := Claim7.holds Tryd.pinned (.plain (OpenSpec.ofChange mobiusHallSpec)) mobiusHallCard

/-- THE TIED CARD OF 'watershedkeep.MobiusRota'. -/
def mobiusRotaCard : Claim7 := { stood := { row := mobiusRotaRow, standIns := [], harness := (true, "b73b6f32d8bacf79b109d1a869f14eaafeec458d4d840f7ceaa2738719a4935f"), looks := false }, kinds := [], alts := [], laidByText := true, laidKinds := [.data], laidTests := true, laidLooks := .later }
def MobiusRotaCardSaid : Prop := Claim7.holds Tryd.pinned (.plain (OpenSpec.ofChange mobiusRotaSpec)) mobiusRotaCard

/-- THE TIED CARD OF 'watershedkeep.DownsSplits'. -/
def downsSplitsCard : Claim7 := { stood := { row := downsSplitsRow, standIns := [], harness := (true, "b73b6f32d8bacf79b109d1a869f14eaafeec458d4d840f7ceaa2738719a4935f"), looks := false }, kinds := [], alts := [], laidByText := true, laidKinds := [.data], laidTests := true, laidLooks := .later }
def DownsSplitsCardSaid : Prop := Claim7.holds Tryd.pinned (.plain (OpenSpec.ofChange downsSplitsSpec)) downsSplitsCard

/-- THE TIED CARD OF 'watershedkeep.DownsTurned'. -/
def downsTurnedCard : Claim7 := { stood := { row := downsTurnedRow, standIns := [], harness := (true, "b73b6f32d8bacf79b109d1a869f14eaafeec458d4d840f7ceaa2738719a4935f"), looks := false }, kinds := [], alts := [], laidByText := true, laidKinds := [.data], laidTests := true, laidLooks := .later }
def DownsTurnedCardSaid : Prop := Claim7.holds Tryd.pinned (.plain (OpenSpec.ofChange downsTurnedSpec)) downsTurnedCard

/-- THE TIED CARD OF 'watershedkeep.DownsBirkhoff'. -/
def downsBirkhoffCard : Claim7 := { stood := { row := downsBirkhoffRow, standIns := [], harness := (true, "b73b6f32d8bacf79b109d1a869f14eaafeec458d4d840f7ceaa2738719a4935f"), looks := false }, kinds := [], alts := [], laidByText := true, laidKinds := [.data], laidTests := true, laidLooks := .later }
def DownsBirkhoffCardSaid : Prop := Claim7.holds Tryd.pinned (.plain (OpenSpec.ofChange downsBirkhoffSpec)) downsBirkhoffCard

/-- THE TIED CARD OF 'watershedkeep.DownsDistributive'. -/
def downsDistributiveCard : Claim7 := { stood := { row := downsDistributiveRow, standIns := [], harness := (true, "b73b6f32d8bacf79b109d1a869f14eaafeec458d4d840f7ceaa2738719a4935f"), looks := false }, kinds := [], alts := [], laidByText := true, laidKinds := [.data], laidTests := true, laidLooks := .later }
def DownsDistributiveCardSaid : Prop := Claim7.holds Tryd.pinned (.plain (OpenSpec.ofChange downsDistributiveSpec)) downsDistributiveCard

/-- THE TIED CARD OF 'watershedkeep.MobiusDowns'. -/
def mobiusDownsCard : Claim7 := { stood := { row := mobiusDownsRow, standIns := [], harness := (true, "b73b6f32d8bacf79b109d1a869f14eaafeec458d4d840f7ceaa2738719a4935f"), looks := false }, kinds := [], alts := [], laidByText := true, laidKinds := [.data], laidTests := true, laidLooks := .later }
def MobiusDownsCardSaid : Prop := Claim7.holds Tryd.pinned (.plain (OpenSpec.ofChange mobiusDownsSpec)) mobiusDownsCard

/-- THE TIED CARD OF 'watershedkeep.OrderDilworth'. -/
def orderDilworthCard : Claim7 := { stood := { row := orderDilworthRow, standIns := [], harness := (true, "b73b6f32d8bacf79b109d1a869f14eaafeec458d4d840f7ceaa2738719a4935f"), looks := false }, kinds := [], alts := [], laidByText := true, laidKinds := [.data], laidTests := true, laidLooks := .later }
def OrderDilworthCardSaid : Prop := Claim7.holds Tryd.pinned (.plain (OpenSpec.ofChange orderDilworthSpec)) orderDilworthCard

/-- THE TIED CARD OF 'watershedkeep.GraphForward'. -/
def graphForwardCard : Claim7 := { stood := { row := graphForwardRow, standIns := [], harness := (true, "b73b6f32d8bacf79b109d1a869f14eaafeec458d4d840f7ceaa2738719a4935f"), looks := false }, kinds := [], alts := [], laidByText := true, laidKinds := [.data], laidTests := true, laidLooks := .later }
def GraphForwardCardSaid : Prop := Claim7.holds Tryd.pinned (.plain (OpenSpec.ofChange graphForwardSpec)) graphForwardCard

/-- THE TIED CARD OF 'watershedkeep.GraphRenamed'. -/
def graphRenamedCard : Claim7 := { stood := { row := graphRenamedRow, standIns := [], harness := (true, "b73b6f32d8bacf79b109d1a869f14eaafeec458d4d840f7ceaa2738719a4935f"), looks := false }, kinds := [], alts := [], laidByText := true, laidKinds := [.data], laidTests := true, laidLooks := .later }
def GraphRenamedCardSaid : Prop := Claim7.holds Tryd.pinned (.plain (OpenSpec.ofChange graphRenamedSpec)) graphRenamedCard

/-- THE TIED CARD OF 'watershedkeep.GraphOwn'. -/
def graphOwnCard : Claim7 := { stood := { row := graphOwnRow, standIns := [], harness := (true, "b73b6f32d8bacf79b109d1a869f14eaafeec458d4d840f7ceaa2738719a4935f"), looks := false }, kinds := [], alts := [], laidByText := true, laidKinds := [.data], laidTests := true, laidLooks := .later }
def GraphOwnCardSaid : Prop := Claim7.holds Tryd.pinned (.plain (OpenSpec.ofChange graphOwnSpec)) graphOwnCard

/-- THE SECOND FORM's CARD OF 'watershedkeep.MobiusHall'. -/
def mobiusHallUptoCard : Claim7 := { stood := { row := mobiusHallUptoRow, standIns := [], harness := (true, "b73b6f32d8bacf79b109d1a869f14eaafeec458d4d840f7ceaa2738719a4935f"), looks := false }, kinds := [], alts := [], laidByText := true, laidKinds := [.data], laidTests := true, laidLooks := .later }
def MobiusHallUptoCardSaid : Prop := Claim7.holds Tryd.pinned (.plain (OpenSpec.upto mobiusHallSpec)) mobiusHallUptoCard

/-- THE SECOND FORM's CARD OF 'watershedkeep.MobiusRota'. -/
def mobiusRotaUptoCard : Claim7 := { stood := { row := mobiusRotaUptoRow, standIns := [], harness := (true, "b73b6f32d8bacf79b109d1a869f14eaafeec458d4d840f7ceaa2738719a4935f"), looks := false }, kinds := [], alts := [], laidByText := true, laidKinds := [.data], laidTests := true, laidLooks := .later }
def MobiusRotaUptoCardSaid : Prop := Claim7.holds Tryd.pinned (.plain (OpenSpec.upto mobiusRotaSpec)) mobiusRotaUptoCard

/-- THE SECOND FORM's CARD OF 'watershedkeep.DownsSplits'. -/
def downsSplitsUptoCard : Claim7 := { stood := { row := downsSplitsUptoRow, standIns := [], harness := (true, "b73b6f32d8bacf79b109d1a869f14eaafeec458d4d840f7ceaa2738719a4935f"), looks := false }, kinds := [], alts := [], laidByText := true, laidKinds := [.data], laidTests := true, laidLooks := .later }
def DownsSplitsUptoCardSaid : Prop := Claim7.holds Tryd.pinned (.plain (OpenSpec.upto downsSplitsSpec)) downsSplitsUptoCard

/-- THE SECOND FORM's CARD OF 'watershedkeep.DownsTurned'. -/
def downsTurnedUptoCard : Claim7 := { stood := { row := downsTurnedUptoRow, standIns := [], harness := (true, "b73b6f32d8bacf79b109d1a869f14eaafeec458d4d840f7ceaa2738719a4935f"), looks := false }, kinds := [], alts := [], laidByText := true, laidKinds := [.data], laidTests := true, laidLooks := .later }
def DownsTurnedUptoCardSaid : Prop := Claim7.holds Tryd.pinned (.plain (OpenSpec.upto downsTurnedSpec)) downsTurnedUptoCard

/-- THE SECOND FORM's CARD OF 'watershedkeep.DownsBirkhoff'. -/
def downsBirkhoffUptoCard : Claim7 := { stood := { row := downsBirkhoffUptoRow, standIns := [], harness := (true, "b73b6f32d8bacf79b109d1a869f14eaafeec458d4d840f7ceaa2738719a4935f"), looks := false }, kinds := [], alts := [], laidByText := true, laidKinds := [.data], laidTests := true, laidLooks := .later }
def DownsBirkhoffUptoCardSaid : Prop := Claim7.holds Tryd.pinned (.plain (OpenSpec.upto downsBirkhoffSpec)) downsBirkhoffUptoCard

/-- THE SECOND FORM's CARD OF 'watershedkeep.DownsDistributive'. -/
def downsDistributiveUptoCard : Claim7 := { stood := { row := downsDistributiveUptoRow, standIns := [], harness := (true, "b73b6f32d8bacf79b109d1a869f14eaafeec458d4d840f7ceaa2738719a4935f"), looks := false }, kinds := [], alts := [], laidByText := true, laidKinds := [.data], laidTests := true, laidLooks := .later }
def DownsDistributiveUptoCardSaid : Prop := Claim7.holds Tryd.pinned (.plain (OpenSpec.upto downsDistributiveSpec)) downsDistributiveUptoCard

/-- THE SECOND FORM's CARD OF 'watershedkeep.MobiusDowns'. -/
def mobiusDownsUptoCard : Claim7 := { stood := { row := mobiusDownsUptoRow, standIns := [], harness := (true, "b73b6f32d8bacf79b109d1a869f14eaafeec458d4d840f7ceaa2738719a4935f"), looks := false }, kinds := [], alts := [], laidByText := true, laidKinds := [.data], laidTests := true, laidLooks := .later }
def MobiusDownsUptoCardSaid : Prop := Claim7.holds Tryd.pinned (.plain (OpenSpec.upto mobiusDownsSpec)) mobiusDownsUptoCard

/-- THE SECOND FORM's CARD OF 'watershedkeep.OrderDilworth'. -/
def orderDilworthUptoCard : Claim7 := { stood := { row := orderDilworthUptoRow, standIns := [], harness := (true, "b73b6f32d8bacf79b109d1a869f14eaafeec458d4d840f7ceaa2738719a4935f"), looks := false }, kinds := [], alts := [], laidByText := true, laidKinds := [.data], laidTests := true, laidLooks := .later }
def OrderDilworthUptoCardSaid : Prop := Claim7.holds Tryd.pinned (.plain (OpenSpec.upto orderDilworthSpec)) orderDilworthUptoCard

/-- THE SECOND FORM's CARD OF 'watershedkeep.GraphForward'. -/
def graphForwardUptoCard : Claim7 := { stood := { row := graphForwardUptoRow, standIns := [], harness := (true, "b73b6f32d8bacf79b109d1a869f14eaafeec458d4d840f7ceaa2738719a4935f"), looks := false }, kinds := [], alts := [], laidByText := true, laidKinds := [.data], laidTests := true, laidLooks := .later }
def GraphForwardUptoCardSaid : Prop := Claim7.holds Tryd.pinned (.plain (OpenSpec.upto graphForwardSpec)) graphForwardUptoCard

/-- THE SECOND FORM's CARD OF 'watershedkeep.GraphRenamed'. -/
def graphRenamedUptoCard : Claim7 := { stood := { row := graphRenamedUptoRow, standIns := [], harness := (true, "b73b6f32d8bacf79b109d1a869f14eaafeec458d4d840f7ceaa2738719a4935f"), looks := false }, kinds := [], alts := [], laidByText := true, laidKinds := [.data], laidTests := true, laidLooks := .later }
def GraphRenamedUptoCardSaid : Prop := Claim7.holds Tryd.pinned (.plain (OpenSpec.upto graphRenamedSpec)) graphRenamedUptoCard

/-- THE SECOND FORM's CARD OF 'watershedkeep.GraphOwn'. -/
def graphOwnUptoCard : Claim7 := { stood := { row := graphOwnUptoRow, standIns := [], harness := (true, "b73b6f32d8bacf79b109d1a869f14eaafeec458d4d840f7ceaa2738719a4935f"), looks := false }, kinds := [], alts := [], laidByText := true, laidKinds := [.data], laidTests := true, laidLooks := .later }
def GraphOwnUptoCardSaid : Prop := Claim7.holds Tryd.pinned (.plain (OpenSpec.upto graphOwnSpec)) graphOwnUptoCard
end Rows
end Go.Proofs.YtagghgmpdjoknaaDoor
