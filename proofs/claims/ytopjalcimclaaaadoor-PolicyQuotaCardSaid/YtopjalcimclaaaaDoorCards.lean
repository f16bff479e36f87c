/-
  DERIVED. GIVEN WITH THE SEED: THE CARDS: each row of YtopjalcimclaaaaDoorRows.lean that lists a variable, with what it lists TIED to the program's text (the seventh form; the later family's looks); each row that meets fmt, with fmt's text TOLD by the authors' own Lean function (tested against real Go, not proved from fmt's source: count such statements apart). THE CARD IS WHAT COUNTS. Prove the row's statement (the work); the ties are given (YtopjalcimclaaaaDoorTie.lean); close each card by the builder's one call (the guide's Derived/Test/ToyasCard.lean, 'card_holds'). Laid BY PROGRAM, IN A SANDBOX (cutbox-door.mjs). By AI agents, Wed Nov 11 2026. No macro, syntax, notation, axiom, sorry.
-/
import Derived.Test.YtopjalcimclaaaaDoorRows
import GoSem.ClaimSeven
namespace Go.Proofs.YtopjalcimclaaaaDoor
namespace Rows

/-- THE TIED CARD OF 'watershedkeep.PolicyQuota'. -/
def policyQuotaCard : Claim7 := { stood := { row := policyQuotaRow, standIns := [], harness := (true, "812d7677b0d9ba06e857ea22dc29d3efef33d7f6a32d82e7ee766aa0bccdced0"), looks := true }, kinds := [], alts := [], laidByText := true, laidKinds := [.data, .handle], laidTests := true, laidLooks := .later }
def PolicyQuotaCardSaid : Prop := Claim7.holds Tryd.pinned (.plain (OpenSpec.ofChange policyQuotaSpec)) policyQuotaCard

/-- THE TIED CARD OF 'watershedkeep.PolicyFront'. -/
def policyFrontCard : Claim7 := { stood := { row := policyFrontRow, standIns := [], harness := (true, "812d7677b0d9ba06e857ea22dc29d3efef33d7f6a32d82e7ee766aa0bccdced0"), looks := true }, kinds := [], alts := [], laidByText := true, laidKinds := [.data, .handle], laidTests := true, laidLooks := .later }
def PolicyFrontCardSaid : Prop := Claim7.holds Tryd.pinned (.plain (OpenSpec.ofChange policyFrontSpec)) policyFrontCard

/-- THE TIED CARD OF 'watershedkeep.PolicyApart'. -/
def policyApartCard : Claim7 := { stood := { row := policyApartRow, standIns := [], harness := (true, "812d7677b0d9ba06e857ea22dc29d3efef33d7f6a32d82e7ee766aa0bccdced0"), looks := true }, kinds := [], alts := [], laidByText := true, laidKinds := [.data, .handle], laidTests := true, laidLooks := .later }
def PolicyApartCardSaid : Prop := Claim7.holds Tryd.pinned (.plain (OpenSpec.ofChange policyApartSpec)) policyApartCard

/-- THE TIED CARD OF 'watershedkeep.GraphOwn'. -/
def graphOwnCard : Claim7 := { stood := { row := graphOwnRow, standIns := [], harness := (true, "812d7677b0d9ba06e857ea22dc29d3efef33d7f6a32d82e7ee766aa0bccdced0"), looks := true }, kinds := [], alts := [], laidByText := true, laidKinds := [.data], laidTests := true, laidLooks := .later }
def GraphOwnCardSaid : Prop := Claim7.holds Tryd.pinned (.plain (OpenSpec.ofChange graphOwnSpec)) graphOwnCard

/-- THE SECOND FORM's CARD OF 'watershedkeep.PolicyQuota'. -/
def policyQuotaUptoCard : Claim7 := { stood := { row := policyQuotaUptoRow, standIns := [], harness := (true, "812d7677b0d9ba06e857ea22dc29d3efef33d7f6a32d82e7ee766aa0bccdced0"), looks := true }, kinds := [], alts := [], laidByText := true, laidKinds := [.data, .handle], laidTests := true, laidLooks := .later }
def PolicyQuotaUptoCardSaid : Prop := Claim7.holds Tryd.pinned (.plain (OpenSpec.upto policyQuotaSpec)) policyQuotaUptoCard

/-- THE SECOND FORM's CARD OF 'watershedkeep.PolicyFront'. -/
def policyFrontUptoCard : Claim7 := { stood := { row := policyFrontUptoRow, standIns := [], harness := (true, "812d7677b0d9ba06e857ea22dc29d3efef33d7f6a32d82e7ee766aa0bccdced0"), looks := true }, kinds := [], alts := [], laidByText := true, laidKinds := [.data, .handle], laidTests := true, laidLooks := .later }
def PolicyFrontUptoCardSaid : Prop := Claim7.holds Tryd.pinned (.plain (OpenSpec.upto policyFrontSpec)) policyFrontUptoCard

/-- THE SECOND FORM's CARD OF 'watershedkeep.PolicyApart'. -/
def policyApartUptoCard : Claim7 := { stood := { row := policyApartUptoRow, standIns := [], harness := (true, "812d7677b0d9ba06e857ea22dc29d3efef33d7f6a32d82e7ee766aa0bccdced0"), looks := true }, kinds := [], alts := [], laidByText := true, laidKinds := [.data, .handle], laidTests := true, laidLooks := .later }
def PolicyApartUptoCardSaid : Prop := Claim7.holds Tryd.pinned (.plain (OpenSpec.upto policyApartSpec)) policyApartUptoCard

/-- THE SECOND FORM's CARD OF 'watershedkeep.GraphOwn'. -/
def graphOwnUptoCard : Claim7 := { stood := { row := graphOwnUptoRow, standIns := [], harness := (true, "812d7677b0d9ba06e857ea22dc29d3efef33d7f6a32d82e7ee766aa0bccdced0"), looks := true }, kinds := [], alts := [], laidByText := true, laidKinds := [.data], laidTests := true, laidLooks := .later }
def GraphOwnUptoCardSaid : Prop := Claim7.holds Tryd.pinned (.plain (OpenSpec.upto graphOwnSpec)) graphOwnUptoCard
end Rows
end Go.Proofs.YtopjalcimclaaaaDoor
