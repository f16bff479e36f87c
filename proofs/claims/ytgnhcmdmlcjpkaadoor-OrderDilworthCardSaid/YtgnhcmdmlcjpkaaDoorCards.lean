/-
  DERIVED. GIVEN WITH THE SEED: THE CARDS: each row of YtgnhcmdmlcjpkaaDoorRows.lean that lists a variable, with what it lists TIED to the program's text (the seventh form; the later family's looks); each row that meets fmt, with fmt's text TOLD by the authors' own Lean function (tested against real Go, not proved from fmt's source: count such statements apart). THE CARD IS WHAT COUNTS. Prove the row's statement (the work); the ties are given (YtgnhcmdmlcjpkaaDoorTie.lean); close each card by the builder's one call (the guide's Derived/Test/ToyasCard.lean, 'card_holds'). Laid BY PROGRAM, IN A SANDBOX (cutbox-door.mjs). By AI agents, Wed Nov 11 2026. No macro, syntax, notation, axiom, sorry.
-/
import Derived.Test.YtgnhcmdmlcjpkaaDoorRows
import GoSem.ClaimSeven
namespace Go.Proofs.YtgnhcmdmlcjpkaaDoor
namespace Rows

/-- THE TIED CARD OF 'watershedkeep.LabelsJoins'. -/
def labelsJoinsCard : Claim7 := { stood := { row := labelsJoinsRow, standIns := [], harness := (true, "65abc2aaf7183d6748ea4ca63c5ffe01ee343b6a2ad66bd6fe5683088795bba2"), looks := true }, kinds := [], alts := [], laidByText := true, laidKinds := [.data], laidTests := true, laidLooks := .later }
def LabelsJoinsCardSaid : Prop := Claim7.holds Tryd.pinned (.plain (OpenSpec.ofChange labelsJoinsSpec)) labelsJoinsCard

/-- THE TIED CARD OF 'watershedkeep.LabelsHides'. -/
def labelsHidesCard : Claim7 := { stood := { row := labelsHidesRow, standIns := [], harness := (true, "65abc2aaf7183d6748ea4ca63c5ffe01ee343b6a2ad66bd6fe5683088795bba2"), looks := true }, kinds := [], alts := [], laidByText := true, laidKinds := [.data], laidTests := true, laidLooks := .later }
def LabelsHidesCardSaid : Prop := Claim7.holds Tryd.pinned (.plain (OpenSpec.ofChange labelsHidesSpec)) labelsHidesCard

/-- THE TIED CARD OF 'watershedkeep.LabelsLeast'. -/
def labelsLeastCard : Claim7 := { stood := { row := labelsLeastRow, standIns := [], harness := (true, "65abc2aaf7183d6748ea4ca63c5ffe01ee343b6a2ad66bd6fe5683088795bba2"), looks := true }, kinds := [], alts := [], laidByText := true, laidKinds := [.data], laidTests := true, laidLooks := .later }
def LabelsLeastCardSaid : Prop := Claim7.holds Tryd.pinned (.plain (OpenSpec.ofChange labelsLeastSpec)) labelsLeastCard

/-- THE TIED CARD OF 'watershedkeep.LabelsDenning'. -/
def labelsDenningCard : Claim7 := { stood := { row := labelsDenningRow, standIns := [], harness := (true, "65abc2aaf7183d6748ea4ca63c5ffe01ee343b6a2ad66bd6fe5683088795bba2"), looks := true }, kinds := [], alts := [], laidByText := true, laidKinds := [.data], laidTests := true, laidLooks := .later }
def LabelsDenningCardSaid : Prop := Claim7.holds Tryd.pinned (.plain (OpenSpec.ofChange labelsDenningSpec)) labelsDenningCard

/-- THE TIED CARD OF 'watershedkeep.PolicyQuota'. -/
def policyQuotaCard : Claim7 := { stood := { row := policyQuotaRow, standIns := [], harness := (true, "65abc2aaf7183d6748ea4ca63c5ffe01ee343b6a2ad66bd6fe5683088795bba2"), looks := true }, kinds := [], alts := [], laidByText := true, laidKinds := [.data, .handle], laidTests := true, laidLooks := .later }
def PolicyQuotaCardSaid : Prop := Claim7.holds Tryd.pinned (.plain (OpenSpec.ofChange policyQuotaSpec)) policyQuotaCard

/-- THE TIED CARD OF 'watershedkeep.PolicyFront'. -/
def policyFrontCard : Claim7 := { stood := { row := policyFrontRow, standIns := [], harness := (true, "65abc2aaf7183d6748ea4ca63c5ffe01ee343b6a2ad66bd6fe5683088795bba2"), looks := true }, kinds := [], alts := [], laidByText := true, laidKinds := [.data, .handle], laidTests := true, laidLooks := .later }
def PolicyFrontCardSaid : Prop := Claim7.holds Tryd.pinned (.plain (OpenSpec.ofChange policyFrontSpec)) policyFrontCard

/-- THE TIED CARD OF 'watershedkeep.PolicyApart'. -/
def policyApartCard : Claim7 := { stood := { row := policyApartRow, standIns := [], harness := (true, "65abc2aaf7183d6748ea4ca63c5ffe01ee343b6a2ad66bd6fe5683088795bba2"), looks := true }, kinds := [], alts := [], laidByText := true, laidKinds := [.data, .handle], laidTests := true, laidLooks := .later }
def PolicyApartCardSaid : Prop := Claim7.holds Tryd.pinned (.plain (OpenSpec.ofChange policyApartSpec)) policyApartCard

/-- THE TIED CARD OF 'watershedkeep.OrderDilworth'. -/
def orderDilworthCard : Claim7 := { stood := { row := orderDilworthRow, standIns := [], harness := (true, "65abc2aaf7183d6748ea4ca63c5ffe01ee343b6a2ad66bd6fe5683088795bba2"), looks := true }, kinds := [], alts := [], laidByText := true, laidKinds := [.data], laidTests := true, laidLooks := .later }
def OrderDilworthCardSaid : Prop := Claim7.holds Tryd.pinned (.plain (OpenSpec.ofChange orderDilworthSpec)) orderDilworthCard

/-- THE SECOND FORM's CARD OF 'watershedkeep.LabelsJoins'. -/
def labelsJoinsUptoCard : Claim7 := { stood := { row := labelsJoinsUptoRow, standIns := [], harness := (true, "65abc2aaf7183d6748ea4ca63c5ffe01ee343b6a2ad66bd6fe5683088795bba2"), looks := true }, kinds := [], alts := [], laidByText := true, laidKinds := [.data], laidTests := true, laidLooks := .later }
def LabelsJoinsUptoCardSaid : Prop := Claim7.holds Tryd.pinned (.plain (OpenSpec.upto labelsJoinsSpec)) labelsJoinsUptoCard

/-- THE SECOND FORM's CARD OF 'watershedkeep.LabelsHides'. -/
def labelsHidesUptoCard : Claim7 := { stood := { row := labelsHidesUptoRow, standIns := [], harness := (true, "65abc2aaf7183d6748ea4ca63c5ffe01ee343b6a2ad66bd6fe5683088795bba2"), looks := true }, kinds := [], alts := [], laidByText := true, laidKinds := [.data], laidTests := true, laidLooks := .later }
def LabelsHidesUptoCardSaid : Prop := Claim7.holds Tryd.pinned (.plain (OpenSpec.upto labelsHidesSpec)) labelsHidesUptoCard

/-- THE SECOND FORM's CARD OF 'watershedkeep.LabelsLeast'. -/
def labelsLeastUptoCard : Claim7 := { stood := { row := labelsLeastUptoRow, standIns := [], harness := (true, "65abc2aaf7183d6748ea4ca63c5ffe01ee343b6a2ad66bd6fe5683088795bba2"), looks := true }, kinds := [], alts := [], laidByText := true, laidKinds := [.data], laidTests := true, laidLooks := .later }
def LabelsLeastUptoCardSaid : Prop := Claim7.holds Tryd.pinned (.plain (OpenSpec.upto labelsLeastSpec)) labelsLeastUptoCard

/-- THE SECOND FORM's CARD OF 'watershedkeep.LabelsDenning'. -/
def labelsDenningUptoCard : Claim7 := { stood := { row := labelsDenningUptoRow, standIns := [], harness := (true, "65abc2aaf7183d6748ea4ca63c5ffe01ee343b6a2ad66bd6fe5683088795bba2"), looks := true }, kinds := [], alts := [], laidByText := true, laidKinds := [.data], laidTests := true, laidLooks := .later }
def LabelsDenningUptoCardSaid : Prop := Claim7.holds Tryd.pinned (.plain (OpenSpec.upto labelsDenningSpec)) labelsDenningUptoCard

/-- THE SECOND FORM's CARD OF 'watershedkeep.PolicyQuota'. -/
def policyQuotaUptoCard : Claim7 := { stood := { row := policyQuotaUptoRow, standIns := [], harness := (true, "65abc2aaf7183d6748ea4ca63c5ffe01ee343b6a2ad66bd6fe5683088795bba2"), looks := true }, kinds := [], alts := [], laidByText := true, laidKinds := [.data, .handle], laidTests := true, laidLooks := .later }
def PolicyQuotaUptoCardSaid : Prop := Claim7.holds Tryd.pinned (.plain (OpenSpec.upto policyQuotaSpec)) policyQuotaUptoCard

/-- THE SECOND FORM's CARD OF 'watershedkeep.PolicyFront'. -/
def policyFrontUptoCard : Claim7 := { stood := { row := policyFrontUptoRow, standIns := [], harness := (true, "65abc2aaf7183d6748ea4ca63c5ffe01ee343b6a2ad66bd6fe5683088795bba2"), looks := true }, kinds := [], alts := [], laidByText := true, laidKinds := [.data, .handle], laidTests := true, laidLooks := .later }
def PolicyFrontUptoCardSaid : Prop := Claim7.holds Tryd.pinned (.plain (OpenSpec.upto policyFrontSpec)) policyFrontUptoCard

/-- THE SECOND FORM's CARD OF 'watershedkeep.PolicyApart'. -/
def policyApartUptoCard : Claim7 := { stood := { row := policyApartUptoRow, standIns := [], harness := (true, "65abc2aaf7183d6748ea4ca63c5ffe01ee343b6a2ad66bd6fe5683088795bba2"), looks := true }, kinds := [], alts := [], laidByText := true, laidKinds := [.data, .handle], laidTests := true, laidLooks := .later }
def PolicyApartUptoCardSaid : Prop := Claim7.holds Tryd.pinned (.plain (OpenSpec.upto policyApartSpec)) policyApartUptoCard

/-- THE SECOND FORM's CARD OF 'watershedkeep.OrderDilworth'. -/
def orderDilworthUptoCard : Claim7 := { stood := { row := orderDilworthUptoRow, standIns := [], harness := (true, "65abc2aaf7183d6748ea4ca63c5ffe01ee343b6a2ad66bd6fe5683088795bba2"), looks := true }, kinds := [], alts := [], laidByText := true, laidKinds := [.data], laidTests := true, laidLooks := .later }
def OrderDilworthUptoCardSaid : Prop := Claim7.holds Tryd.pinned (.plain (OpenSpec.upto orderDilworthSpec)) orderDilworthUptoCard
end Rows
end Go.Proofs.YtgnhcmdmlcjpkaaDoor
