/-
  DERIVED. GIVEN WITH THE SEED: THE CARDS: each row of YtgnnhemoocfclaaDoorRows.lean that lists a variable, with what it lists TIED to the program's text (the seventh form; the later family's looks); each row that meets fmt, with fmt's text TOLD by the authors' own Lean function (tested against real Go, not proved from fmt's source: count such statements apart). THE CARD IS WHAT COUNTS. Prove the row's statement (the work); the ties are given (YtgnnhemoocfclaaDoorTie.lean); close each card by the builder's one call (the guide's Derived/Test/ToyasCard.lean, 'card_holds'). Laid BY PROGRAM, IN A SANDBOX (cutbox-door.mjs). By AI agents, Wed Nov 11 2026. No macro, syntax, notation, axiom, sorry.
-/
import Derived.Test.YtgnnhemoocfclaaDoorRows
import GoSem.ClaimSeven
namespace Go.Proofs.YtgnnhemoocfclaaDoor
namespace Rows

/-- THE TIED CARD OF 'watershedkeep.ReachKleene'. -/
def reachKleeneCard : Claim7 := { stood := { row := reachKleeneRow, standIns := [], harness := (true, "b049033100521c0328afe8a8273d62bdb84d2c9756645822752d68c43c86d84a"), looks := false }, kinds := [], alts := [], laidByText := true, laidKinds := [.data], laidTests := true, laidLooks := .later }
def ReachKleeneCardSaid : Prop := Claim7.holds Tryd.pinned (.plain (OpenSpec.ofChange reachKleeneSpec)) reachKleeneCard

/-- THE TIED CARD OF 'watershedkeep.ReachWalks'. -/
def reachWalksCard : Claim7 := { stood := { row := reachWalksRow, standIns := [], harness := (true, "b049033100521c0328afe8a8273d62bdb84d2c9756645822752d68c43c86d84a"), looks := false }, kinds := [], alts := [], laidByText := true, laidKinds := [.data], laidTests := true, laidLooks := .later }
def ReachWalksCardSaid : Prop := Claim7.holds Tryd.pinned (.plain (OpenSpec.ofChange reachWalksSpec)) reachWalksCard

/-- THE TIED CARD OF 'watershedkeep.ReachTriangle'. -/
def reachTriangleCard : Claim7 := { stood := { row := reachTriangleRow, standIns := [], harness := (true, "b049033100521c0328afe8a8273d62bdb84d2c9756645822752d68c43c86d84a"), looks := false }, kinds := [], alts := [], laidByText := true, laidKinds := [.data], laidTests := true, laidLooks := .later }
def ReachTriangleCardSaid : Prop := Claim7.holds Tryd.pinned (.plain (OpenSpec.ofChange reachTriangleSpec)) reachTriangleCard

/-- THE TIED CARD OF 'watershedkeep.ReachApart'. -/
def reachApartCard : Claim7 := { stood := { row := reachApartRow, standIns := [], harness := (true, "b049033100521c0328afe8a8273d62bdb84d2c9756645822752d68c43c86d84a"), looks := false }, kinds := [], alts := [], laidByText := true, laidKinds := [.data], laidTests := true, laidLooks := .later }
def ReachApartCardSaid : Prop := Claim7.holds Tryd.pinned (.plain (OpenSpec.ofChange reachApartSpec)) reachApartCard

/-- THE TIED CARD OF 'watershedkeep.ReachLater'. -/
def reachLaterCard : Claim7 := { stood := { row := reachLaterRow, standIns := [], harness := (true, "b049033100521c0328afe8a8273d62bdb84d2c9756645822752d68c43c86d84a"), looks := false }, kinds := [], alts := [], laidByText := true, laidKinds := [.data], laidTests := true, laidLooks := .later }
def ReachLaterCardSaid : Prop := Claim7.holds Tryd.pinned (.plain (OpenSpec.ofChange reachLaterSpec)) reachLaterCard

/-- THE TIED CARD OF 'watershedkeep.ReachSteps'. -/
def reachStepsCard : Claim7 := { stood := { row := reachStepsRow, standIns := [], harness := (true, "b049033100521c0328afe8a8273d62bdb84d2c9756645822752d68c43c86d84a"), looks := false }, kinds := [], alts := [], laidByText := true, laidKinds := [.data], laidTests := true, laidLooks := .later }
def ReachStepsCardSaid : Prop := Claim7.holds Tryd.pinned (.plain (OpenSpec.ofChange reachStepsSpec)) reachStepsCard

/-- THE TIED CARD OF 'watershedkeep.ReachOpens'. -/
def reachOpensCard : Claim7 := { stood := { row := reachOpensRow, standIns := [], harness := (true, "b049033100521c0328afe8a8273d62bdb84d2c9756645822752d68c43c86d84a"), looks := false }, kinds := [], alts := [], laidByText := true, laidKinds := [.data], laidTests := true, laidLooks := .later }
def ReachOpensCardSaid : Prop := Claim7.holds Tryd.pinned (.plain (OpenSpec.ofChange reachOpensSpec)) reachOpensCard

/-- THE TIED CARD OF 'watershedkeep.TrackAnyhow'. -/
def trackAnyhowCard : Claim7 := { stood := { row := trackAnyhowRow, standIns := [], harness := (true, "b049033100521c0328afe8a8273d62bdb84d2c9756645822752d68c43c86d84a"), looks := false }, kinds := [], alts := [], laidByText := true, laidKinds := [.data], laidTests := true, laidLooks := .later }
def TrackAnyhowCardSaid : Prop := Claim7.holds Tryd.pinned (.plain (OpenSpec.ofChange trackAnyhowSpec)) trackAnyhowCard

/-- THE SECOND FORM's CARD OF 'watershedkeep.ReachKleene'. -/
def reachKleeneUptoCard : Claim7 := { stood := { row := reachKleeneUptoRow, standIns := [], harness := (true, "b049033100521c0328afe8a8273d62bdb84d2c9756645822752d68c43c86d84a"), looks := false }, kinds := [], alts := [], laidByText := true, laidKinds := [.data], laidTests := true, laidLooks := .later }
def ReachKleeneUptoCardSaid : Prop := Claim7.holds Tryd.pinned (.plain (OpenSpec.upto reachKleeneSpec)) reachKleeneUptoCard

/-- THE SECOND FORM's CARD OF 'watershedkeep.ReachWalks'. -/
def reachWalksUptoCard : Claim7 := { stood := { row := reachWalksUptoRow, standIns := [], harness := (true, "b049033100521c0328afe8a8273d62bdb84d2c9756645822752d68c43c86d84a"), looks := false }, kinds := [], alts := [], laidByText := true, laidKinds := [.data], laidTests := true, laidLooks := .later }
def ReachWalksUptoCardSaid : Prop := Claim7.holds Tryd.pinned (.plain (OpenSpec.upto reachWalksSpec)) reachWalksUptoCard

/-- THE SECOND FORM's CARD OF 'watershedkeep.ReachTriangle'. -/
def reachTriangleUptoCard : Claim7 := { stood := { row := reachTriangleUptoRow, standIns := [], harness := (true, "b049033100521c0328afe8a8273d62bdb84d2c9756645822752d68c43c86d84a"), looks := false }, kinds := [], alts := [], laidByText := true, laidKinds := [.data], laidTests := true, laidLooks := .later }
def ReachTriangleUptoCardSaid : Prop := Claim7.holds Tryd.pinned (.plain (OpenSpec.upto reachTriangleSpec)) reachTriangleUptoCard

/-- THE SECOND FORM's CARD OF 'watershedkeep.ReachApart'. -/
def reachApartUptoCard : Claim7 := { stood := { row := reachApartUptoRow, standIns := [], harness := (true, "b049033100521c0328afe8a8273d62bdb84d2c9756645822752d68c43c86d84a"), looks := false }, kinds := [], alts := [], laidByText := true, laidKinds := [.data], laidTests := true, laidLooks := .later }
def ReachApartUptoCardSaid : Prop := Claim7.holds Tryd.pinned (.plain (OpenSpec.upto reachApartSpec)) reachApartUptoCard

/-- THE SECOND FORM's CARD OF 'watershedkeep.ReachLater'. -/
def reachLaterUptoCard : Claim7 := { stood := { row := reachLaterUptoRow, standIns := [], harness := (true, "b049033100521c0328afe8a8273d62bdb84d2c9756645822752d68c43c86d84a"), looks := false }, kinds := [], alts := [], laidByText := true, laidKinds := [.data], laidTests := true, laidLooks := .later }
def ReachLaterUptoCardSaid : Prop := Claim7.holds Tryd.pinned (.plain (OpenSpec.upto reachLaterSpec)) reachLaterUptoCard

/-- THE SECOND FORM's CARD OF 'watershedkeep.ReachSteps'. -/
def reachStepsUptoCard : Claim7 := { stood := { row := reachStepsUptoRow, standIns := [], harness := (true, "b049033100521c0328afe8a8273d62bdb84d2c9756645822752d68c43c86d84a"), looks := false }, kinds := [], alts := [], laidByText := true, laidKinds := [.data], laidTests := true, laidLooks := .later }
def ReachStepsUptoCardSaid : Prop := Claim7.holds Tryd.pinned (.plain (OpenSpec.upto reachStepsSpec)) reachStepsUptoCard

/-- THE SECOND FORM's CARD OF 'watershedkeep.ReachOpens'. -/
def reachOpensUptoCard : Claim7 := { stood := { row := reachOpensUptoRow, standIns := [], harness := (true, "b049033100521c0328afe8a8273d62bdb84d2c9756645822752d68c43c86d84a"), looks := false }, kinds := [], alts := [], laidByText := true, laidKinds := [.data], laidTests := true, laidLooks := .later }
def ReachOpensUptoCardSaid : Prop := Claim7.holds Tryd.pinned (.plain (OpenSpec.upto reachOpensSpec)) reachOpensUptoCard

/-- THE SECOND FORM's CARD OF 'watershedkeep.TrackAnyhow'. -/
def trackAnyhowUptoCard : Claim7 := { stood := { row := trackAnyhowUptoRow, standIns := [], harness := (true, "b049033100521c0328afe8a8273d62bdb84d2c9756645822752d68c43c86d84a"), looks := false }, kinds := [], alts := [], laidByText := true, laidKinds := [.data], laidTests := true, laidLooks := .later }
def TrackAnyhowUptoCardSaid : Prop := Claim7.holds Tryd.pinned (.plain (OpenSpec.upto trackAnyhowSpec)) trackAnyhowUptoCard
end Rows
end Go.Proofs.YtgnnhemoocfclaaDoor
