/-
  NARROWER THAN 'FOR EVERY INPUT', by the rows' own cells (each row's printed sentence says how): LabelsJoins: laid · LabelsHides: laid · LabelsLeast: laid · LabelsDenning: laid · PolicyQuota: laid · PolicyFront: laid · PolicyApart: laid · OrderDilworth: laid.
  DERIVED. THE GIVEN ROWS OF THIS SEAT. 8 by the template 'for every input the law returns true; each argument reads behind the call as it read before'; 0 by the template 'total and deterministic' (their statements: YtgnhcmdmlcjpkaaDoorTotals.lean).
  GIVEN WITH THE SEED: the statements are not yours to turn. If you find one false, say at which input.
  Laid BY PROGRAM, IN A SANDBOX (cutbox-rows.mjs): the forced cells as the released guide's own fill.sh prints them over the translation c1f4f1a3fb50e48d… (all of the seat's roots in one cut). By AI agents, Wed Nov 11 2026. No macro, syntax, notation, axiom, sorry.
-/
import Derived.Test.YtgnhcmdmlcjpkaaDoorChecked
import GoSem.Claim
import GoSem.ClaimJoined
import GoSem.ClaimMapViews
import Derived.JoinedTies
import Derived.KernelRfl
namespace Go.Proofs.YtgnhcmdmlcjpkaaDoor
/- THE CELL 'sum', in the pinned program and in every row, IS THE sha256 OF THE DUMP (.gsa) THAT YtgnhcmdmlcjpkaaDoorProg.lean LOADS. Nothing in Lean hashes anything: it is a label: what it is worth is what the hold of that sum in a sandbox is worth. -/
noncomputable def Tryd.pinned : Pinned := { name := "ytgnhcmdmlcjpkaadoor", sum := "c1f4f1a3fb50e48d6e12fa27c7c796cf23ef8f341790788c2f30687ebb3c3de1", checked := Tryd.checked }
namespace Rows
def none {H : Type} : Left H := { results := [], args := [] }

/- WHAT THE LISTED PACKAGE-LEVEL VARIABLES READ AS WHEN THE CALL BEGINS. Each datum BY PROGRAM (the guide's laid-datum.mjs) off the statement by which the dump's own 'gosem.cut.vars' lays the variable. In a bare row this is a premise. The card (YtgnhcmdmlcjpkaaDoorCards.lean) ties it to the program's text. -/
def laid_math_bits_deBruijn64tab {H : Type} : DataW H := .agg [.lit (.int .u8 0), .lit (.int .u8 1), .lit (.int .u8 56), .lit (.int .u8 2), .lit (.int .u8 57), .lit (.int .u8 49), .lit (.int .u8 28), .lit (.int .u8 3), .lit (.int .u8 61), .lit (.int .u8 58), .lit (.int .u8 42), .lit (.int .u8 50), .lit (.int .u8 38), .lit (.int .u8 29), .lit (.int .u8 17), .lit (.int .u8 4), .lit (.int .u8 62), .lit (.int .u8 47), .lit (.int .u8 59), .lit (.int .u8 36), .lit (.int .u8 45), .lit (.int .u8 43), .lit (.int .u8 51), .lit (.int .u8 22), .lit (.int .u8 53), .lit (.int .u8 39), .lit (.int .u8 33), .lit (.int .u8 30), .lit (.int .u8 24), .lit (.int .u8 18), .lit (.int .u8 12), .lit (.int .u8 5), .lit (.int .u8 63), .lit (.int .u8 55), .lit (.int .u8 48), .lit (.int .u8 27), .lit (.int .u8 60), .lit (.int .u8 41), .lit (.int .u8 37), .lit (.int .u8 16), .lit (.int .u8 46), .lit (.int .u8 35), .lit (.int .u8 44), .lit (.int .u8 21), .lit (.int .u8 52), .lit (.int .u8 32), .lit (.int .u8 23), .lit (.int .u8 11), .lit (.int .u8 54), .lit (.int .u8 26), .lit (.int .u8 40), .lit (.int .u8 15), .lit (.int .u8 34), .lit (.int .u8 20), .lit (.int .u8 31), .lit (.int .u8 10), .lit (.int .u8 25), .lit (.int .u8 14), .lit (.int .u8 19), .lit (.int .u8 9), .lit (.int .u8 13), .lit (.int .u8 8), .lit (.int .u8 7), .lit (.int .u8 6)]
def laid_errors_errorType {H : Type} : DataW H := .iface "internal/reflectlite.rtype" (.agg [.ptr (.lit (.string [101, 114, 114, 111, 114]))])

/-- 'watershedkeep.LabelsJoins': WHATEVER THE INPUT: true; the input reads as it did. -/
def labelsJoinsSpec : ChangeSpec := { name := "labelsJoins", fn := fun _ => fun
  | [d1, d2, d3, d4] => { results := [.lit (.bool true)], args := [d1, d2, d3, d4] }
  | _ => none }
def labelsJoinsRow : OpenClaim := { program := "ytgnhcmdmlcjpkaadoor", sum := "c1f4f1a3fb50e48d6e12fa27c7c796cf23ef8f341790788c2f30687ebb3c3de1", func := "watershed/watershedkeep.LabelsJoins", spec := "labelsJoins", unfollowed := true, recurses := true, named := ["math/bits.deBruijn64tab"], plainKeys := false, apart := false, laid := [("math/bits.deBruijn64tab", laid_math_bits_deBruijn64tab)] }
def LabelsJoinsSaid : Prop := labelsJoinsRow.holds Tryd.pinned (OpenSpec.ofChange labelsJoinsSpec)

/-- ITS FALSE NEIGHBOUR: 'it returns false'. Refute it at one input. -/
def labelsJoinsWrong : ChangeSpec := { name := "labelsJoins", fn := fun _ => fun
  | [d1, d2, d3, d4] => { results := [.lit (.bool false)], args := [d1, d2, d3, d4] }
  | _ => none }
def LabelsJoinsWrongFalsely : Prop := labelsJoinsRow.holds Tryd.pinned (OpenSpec.ofChange labelsJoinsWrong)

/-- 'watershedkeep.LabelsHides': WHATEVER THE INPUT: true; the input reads as it did. -/
def labelsHidesSpec : ChangeSpec := { name := "labelsHides", fn := fun _ => fun
  | [d1, d2, d3, d4, d5] => { results := [.lit (.bool true)], args := [d1, d2, d3, d4, d5] }
  | _ => none }
def labelsHidesRow : OpenClaim := { program := "ytgnhcmdmlcjpkaadoor", sum := "c1f4f1a3fb50e48d6e12fa27c7c796cf23ef8f341790788c2f30687ebb3c3de1", func := "watershed/watershedkeep.LabelsHides", spec := "labelsHides", unfollowed := true, recurses := true, named := ["math/bits.deBruijn64tab"], plainKeys := false, apart := false, laid := [("math/bits.deBruijn64tab", laid_math_bits_deBruijn64tab)] }
def LabelsHidesSaid : Prop := labelsHidesRow.holds Tryd.pinned (OpenSpec.ofChange labelsHidesSpec)

/-- ITS FALSE NEIGHBOUR: 'it returns false'. Refute it at one input. -/
def labelsHidesWrong : ChangeSpec := { name := "labelsHides", fn := fun _ => fun
  | [d1, d2, d3, d4, d5] => { results := [.lit (.bool false)], args := [d1, d2, d3, d4, d5] }
  | _ => none }
def LabelsHidesWrongFalsely : Prop := labelsHidesRow.holds Tryd.pinned (OpenSpec.ofChange labelsHidesWrong)

/-- 'watershedkeep.LabelsLeast': WHATEVER THE INPUT: true; the input reads as it did. -/
def labelsLeastSpec : ChangeSpec := { name := "labelsLeast", fn := fun _ => fun
  | [d1, d2, d3, d4] => { results := [.lit (.bool true)], args := [d1, d2, d3, d4] }
  | _ => none }
def labelsLeastRow : OpenClaim := { program := "ytgnhcmdmlcjpkaadoor", sum := "c1f4f1a3fb50e48d6e12fa27c7c796cf23ef8f341790788c2f30687ebb3c3de1", func := "watershed/watershedkeep.LabelsLeast", spec := "labelsLeast", unfollowed := true, recurses := true, named := ["math/bits.deBruijn64tab"], plainKeys := false, apart := false, laid := [("math/bits.deBruijn64tab", laid_math_bits_deBruijn64tab)] }
def LabelsLeastSaid : Prop := labelsLeastRow.holds Tryd.pinned (OpenSpec.ofChange labelsLeastSpec)

/-- ITS FALSE NEIGHBOUR: 'it returns false'. Refute it at one input. -/
def labelsLeastWrong : ChangeSpec := { name := "labelsLeast", fn := fun _ => fun
  | [d1, d2, d3, d4] => { results := [.lit (.bool false)], args := [d1, d2, d3, d4] }
  | _ => none }
def LabelsLeastWrongFalsely : Prop := labelsLeastRow.holds Tryd.pinned (OpenSpec.ofChange labelsLeastWrong)

/-- 'watershedkeep.LabelsDenning': WHATEVER THE INPUT: true; the input reads as it did. -/
def labelsDenningSpec : ChangeSpec := { name := "labelsDenning", fn := fun _ => fun
  | [d1, d2, d3, d4, d5] => { results := [.lit (.bool true)], args := [d1, d2, d3, d4, d5] }
  | _ => none }
def labelsDenningRow : OpenClaim := { program := "ytgnhcmdmlcjpkaadoor", sum := "c1f4f1a3fb50e48d6e12fa27c7c796cf23ef8f341790788c2f30687ebb3c3de1", func := "watershed/watershedkeep.LabelsDenning", spec := "labelsDenning", unfollowed := true, recurses := true, named := ["math/bits.deBruijn64tab"], plainKeys := false, apart := false, laid := [("math/bits.deBruijn64tab", laid_math_bits_deBruijn64tab)] }
def LabelsDenningSaid : Prop := labelsDenningRow.holds Tryd.pinned (OpenSpec.ofChange labelsDenningSpec)

/-- ITS FALSE NEIGHBOUR: 'it returns false'. Refute it at one input. -/
def labelsDenningWrong : ChangeSpec := { name := "labelsDenning", fn := fun _ => fun
  | [d1, d2, d3, d4, d5] => { results := [.lit (.bool false)], args := [d1, d2, d3, d4, d5] }
  | _ => none }
def LabelsDenningWrongFalsely : Prop := labelsDenningRow.holds Tryd.pinned (OpenSpec.ofChange labelsDenningWrong)

/-- 'watershedkeep.PolicyQuota': WHATEVER THE INPUT: true; the input reads as it did. -/
def policyQuotaSpec : ChangeSpec := { name := "policyQuota", fn := fun _ => fun
  | [d1, d2, d3] => { results := [.lit (.bool true)], args := [d1, d2, d3] }
  | _ => none }
def policyQuotaRow : OpenClaim := { program := "ytgnhcmdmlcjpkaadoor", sum := "c1f4f1a3fb50e48d6e12fa27c7c796cf23ef8f341790788c2f30687ebb3c3de1", func := "watershed/watershedkeep.PolicyQuota", spec := "policyQuota", inPlace := ["internal/reflectlite.ValueOf", "(internal/reflectlite.Value).Type", "(internal/reflectlite.Value).IsNil", "internal/reflectlite.TypeOf", "(internal/reflectlite.Value).Elem", "(internal/reflectlite.Value).Set"], unfollowed := true, recurses := true, named := ["math/bits.deBruijn64tab", "errors.errorType"], plainKeys := false, apart := false, laid := [("math/bits.deBruijn64tab", laid_math_bits_deBruijn64tab), ("errors.errorType", laid_errors_errorType)] }
def PolicyQuotaSaid : Prop := policyQuotaRow.holds Tryd.pinned (OpenSpec.ofChange policyQuotaSpec)

/-- ITS FALSE NEIGHBOUR: 'it returns false'. Refute it at one input. -/
def policyQuotaWrong : ChangeSpec := { name := "policyQuota", fn := fun _ => fun
  | [d1, d2, d3] => { results := [.lit (.bool false)], args := [d1, d2, d3] }
  | _ => none }
def PolicyQuotaWrongFalsely : Prop := policyQuotaRow.holds Tryd.pinned (OpenSpec.ofChange policyQuotaWrong)

/-- 'watershedkeep.PolicyFront': WHATEVER THE INPUT: true; the input reads as it did. -/
def policyFrontSpec : ChangeSpec := { name := "policyFront", fn := fun _ => fun
  | [d1, d2, d3, d4] => { results := [.lit (.bool true)], args := [d1, d2, d3, d4] }
  | _ => none }
def policyFrontRow : OpenClaim := { program := "ytgnhcmdmlcjpkaadoor", sum := "c1f4f1a3fb50e48d6e12fa27c7c796cf23ef8f341790788c2f30687ebb3c3de1", func := "watershed/watershedkeep.PolicyFront", spec := "policyFront", inPlace := ["internal/reflectlite.ValueOf", "(internal/reflectlite.Value).Type", "(internal/reflectlite.Value).IsNil", "internal/reflectlite.TypeOf", "(internal/reflectlite.Value).Elem", "(internal/reflectlite.Value).Set"], unfollowed := true, recurses := true, named := ["math/bits.deBruijn64tab", "errors.errorType"], plainKeys := false, apart := false, laid := [("math/bits.deBruijn64tab", laid_math_bits_deBruijn64tab), ("errors.errorType", laid_errors_errorType)] }
def PolicyFrontSaid : Prop := policyFrontRow.holds Tryd.pinned (OpenSpec.ofChange policyFrontSpec)

/-- ITS FALSE NEIGHBOUR: 'it returns false'. Refute it at one input. -/
def policyFrontWrong : ChangeSpec := { name := "policyFront", fn := fun _ => fun
  | [d1, d2, d3, d4] => { results := [.lit (.bool false)], args := [d1, d2, d3, d4] }
  | _ => none }
def PolicyFrontWrongFalsely : Prop := policyFrontRow.holds Tryd.pinned (OpenSpec.ofChange policyFrontWrong)

/-- 'watershedkeep.PolicyApart': WHATEVER THE INPUT: true; the input reads as it did. -/
def policyApartSpec : ChangeSpec := { name := "policyApart", fn := fun _ => fun
  | [d1, d2, d3, d4, d5, d6] => { results := [.lit (.bool true)], args := [d1, d2, d3, d4, d5, d6] }
  | _ => none }
def policyApartRow : OpenClaim := { program := "ytgnhcmdmlcjpkaadoor", sum := "c1f4f1a3fb50e48d6e12fa27c7c796cf23ef8f341790788c2f30687ebb3c3de1", func := "watershed/watershedkeep.PolicyApart", spec := "policyApart", inPlace := ["internal/reflectlite.ValueOf", "(internal/reflectlite.Value).Type", "(internal/reflectlite.Value).IsNil", "internal/reflectlite.TypeOf", "(internal/reflectlite.Value).Elem", "(internal/reflectlite.Value).Set"], unfollowed := true, recurses := true, named := ["math/bits.deBruijn64tab", "errors.errorType"], plainKeys := false, apart := false, laid := [("math/bits.deBruijn64tab", laid_math_bits_deBruijn64tab), ("errors.errorType", laid_errors_errorType)] }
def PolicyApartSaid : Prop := policyApartRow.holds Tryd.pinned (OpenSpec.ofChange policyApartSpec)

/-- ITS FALSE NEIGHBOUR: 'it returns false'. Refute it at one input. -/
def policyApartWrong : ChangeSpec := { name := "policyApart", fn := fun _ => fun
  | [d1, d2, d3, d4, d5, d6] => { results := [.lit (.bool false)], args := [d1, d2, d3, d4, d5, d6] }
  | _ => none }
def PolicyApartWrongFalsely : Prop := policyApartRow.holds Tryd.pinned (OpenSpec.ofChange policyApartWrong)

/-- 'watershedkeep.OrderDilworth': WHATEVER THE INPUT: true; the input reads as it did. -/
def orderDilworthSpec : ChangeSpec := { name := "orderDilworth", fn := fun _ => fun
  | [d1, d2] => { results := [.lit (.bool true)], args := [d1, d2] }
  | _ => none }
def orderDilworthRow : OpenClaim := { program := "ytgnhcmdmlcjpkaadoor", sum := "c1f4f1a3fb50e48d6e12fa27c7c796cf23ef8f341790788c2f30687ebb3c3de1", func := "watershed/watershedkeep.OrderDilworth", spec := "orderDilworth", unfollowed := true, recurses := true, named := ["math/bits.deBruijn64tab"], plainKeys := false, apart := false, laid := [("math/bits.deBruijn64tab", laid_math_bits_deBruijn64tab)] }
def OrderDilworthSaid : Prop := orderDilworthRow.holds Tryd.pinned (OpenSpec.ofChange orderDilworthSpec)

/-- ITS FALSE NEIGHBOUR: 'it returns false'. Refute it at one input. -/
def orderDilworthWrong : ChangeSpec := { name := "orderDilworth", fn := fun _ => fun
  | [d1, d2] => { results := [.lit (.bool false)], args := [d1, d2] }
  | _ => none }
def OrderDilworthWrongFalsely : Prop := orderDilworthRow.holds Tryd.pinned (OpenSpec.ofChange orderDilworthWrong)

/- THE SECOND FORM. 'bulk': how many values and letters a reading holds, each counted each time it is reached (what is shared counts as often as it is met; a slice's spare places count too). A statement '..UptoSaid' is the law's where the arguments, and the package variables that the reading takes, are together of bulk at most 1048576: NARROWER than '..Said'. Prove '..Said' where nothing that the law and all that it calls make is longer than what came in: it says more and counts as full. Else prove '..UptoSaid'. A law counts once. -/
mutual
def uptoBulk {H : Type} : DataW H → Nat
  | .lit (.string bytes) => bytes.length + 1
  | .lit _ => 1
  | .nil => 1
  | .ptr d => uptoBulk d + 1
  | .slice elems spare => uptoBulkAll elems + uptoBulkAll spare + 1
  | .agg parts => uptoBulkAll parts + 1
  | .iface _ d => uptoBulk d + 1
  | .map entries => uptoBulkEntries entries + 1
  | .held _ => 1
def uptoBulkAll {H : Type} : List (DataW H) → Nat
  | [] => 0
  | d :: r => uptoBulk d + uptoBulkAll r
def uptoBulkEntries {H : Type} : List (Lit × DataW H) → Nat
  | [] => 0
  | x :: r => uptoBulkEntry x + uptoBulkEntries r
def uptoBulkEntry {H : Type} : Lit × DataW H → Nat
  | (.string bytes, d) => bytes.length + uptoBulk d + 1
  | (_, d) => uptoBulk d + 1
 end
def uptoSmall : (H : Type) → List (DataW H) → Bool := fun _ ds => decide (uptoBulkAll ds ≤ 1048576)
def OpenSpec.upto (s : _root_.Go.ChangeSpec) : _root_.Go.OpenSpec := { _root_.Go.OpenSpec.ofChange s with cond := some uptoSmall }

/-- 'watershedkeep.LabelsJoins', WHERE WHAT IT READS IS OF BULK AT MOST 1048576: true; the input reads as it did. -/
def labelsJoinsUptoRow : OpenClaim := { program := "ytgnhcmdmlcjpkaadoor", sum := "c1f4f1a3fb50e48d6e12fa27c7c796cf23ef8f341790788c2f30687ebb3c3de1", func := "watershed/watershedkeep.LabelsJoins", spec := "labelsJoins", unfollowed := true, recurses := true, named := ["math/bits.deBruijn64tab"], plainKeys := false, apart := false, laid := [("math/bits.deBruijn64tab", laid_math_bits_deBruijn64tab)], narrowed := true }
def LabelsJoinsUptoSaid : Prop := labelsJoinsUptoRow.holds Tryd.pinned (OpenSpec.upto labelsJoinsSpec)

/-- 'watershedkeep.LabelsHides', WHERE WHAT IT READS IS OF BULK AT MOST 1048576: true; the input reads as it did. -/
def labelsHidesUptoRow : OpenClaim := { program := "ytgnhcmdmlcjpkaadoor", sum := "c1f4f1a3fb50e48d6e12fa27c7c796cf23ef8f341790788c2f30687ebb3c3de1", func := "watershed/watershedkeep.LabelsHides", spec := "labelsHides", unfollowed := true, recurses := true, named := ["math/bits.deBruijn64tab"], plainKeys := false, apart := false, laid := [("math/bits.deBruijn64tab", laid_math_bits_deBruijn64tab)], narrowed := true }
def LabelsHidesUptoSaid : Prop := labelsHidesUptoRow.holds Tryd.pinned (OpenSpec.upto labelsHidesSpec)

/-- 'watershedkeep.LabelsLeast', WHERE WHAT IT READS IS OF BULK AT MOST 1048576: true; the input reads as it did. -/
def labelsLeastUptoRow : OpenClaim := { program := "ytgnhcmdmlcjpkaadoor", sum := "c1f4f1a3fb50e48d6e12fa27c7c796cf23ef8f341790788c2f30687ebb3c3de1", func := "watershed/watershedkeep.LabelsLeast", spec := "labelsLeast", unfollowed := true, recurses := true, named := ["math/bits.deBruijn64tab"], plainKeys := false, apart := false, laid := [("math/bits.deBruijn64tab", laid_math_bits_deBruijn64tab)], narrowed := true }
def LabelsLeastUptoSaid : Prop := labelsLeastUptoRow.holds Tryd.pinned (OpenSpec.upto labelsLeastSpec)

/-- 'watershedkeep.LabelsDenning', WHERE WHAT IT READS IS OF BULK AT MOST 1048576: true; the input reads as it did. -/
def labelsDenningUptoRow : OpenClaim := { program := "ytgnhcmdmlcjpkaadoor", sum := "c1f4f1a3fb50e48d6e12fa27c7c796cf23ef8f341790788c2f30687ebb3c3de1", func := "watershed/watershedkeep.LabelsDenning", spec := "labelsDenning", unfollowed := true, recurses := true, named := ["math/bits.deBruijn64tab"], plainKeys := false, apart := false, laid := [("math/bits.deBruijn64tab", laid_math_bits_deBruijn64tab)], narrowed := true }
def LabelsDenningUptoSaid : Prop := labelsDenningUptoRow.holds Tryd.pinned (OpenSpec.upto labelsDenningSpec)

/-- 'watershedkeep.PolicyQuota', WHERE WHAT IT READS IS OF BULK AT MOST 1048576: true; the input reads as it did. -/
def policyQuotaUptoRow : OpenClaim := { program := "ytgnhcmdmlcjpkaadoor", sum := "c1f4f1a3fb50e48d6e12fa27c7c796cf23ef8f341790788c2f30687ebb3c3de1", func := "watershed/watershedkeep.PolicyQuota", spec := "policyQuota", inPlace := ["internal/reflectlite.ValueOf", "(internal/reflectlite.Value).Type", "(internal/reflectlite.Value).IsNil", "internal/reflectlite.TypeOf", "(internal/reflectlite.Value).Elem", "(internal/reflectlite.Value).Set"], unfollowed := true, recurses := true, named := ["math/bits.deBruijn64tab", "errors.errorType"], plainKeys := false, apart := false, laid := [("math/bits.deBruijn64tab", laid_math_bits_deBruijn64tab), ("errors.errorType", laid_errors_errorType)], narrowed := true }
def PolicyQuotaUptoSaid : Prop := policyQuotaUptoRow.holds Tryd.pinned (OpenSpec.upto policyQuotaSpec)

/-- 'watershedkeep.PolicyFront', WHERE WHAT IT READS IS OF BULK AT MOST 1048576: true; the input reads as it did. -/
def policyFrontUptoRow : OpenClaim := { program := "ytgnhcmdmlcjpkaadoor", sum := "c1f4f1a3fb50e48d6e12fa27c7c796cf23ef8f341790788c2f30687ebb3c3de1", func := "watershed/watershedkeep.PolicyFront", spec := "policyFront", inPlace := ["internal/reflectlite.ValueOf", "(internal/reflectlite.Value).Type", "(internal/reflectlite.Value).IsNil", "internal/reflectlite.TypeOf", "(internal/reflectlite.Value).Elem", "(internal/reflectlite.Value).Set"], unfollowed := true, recurses := true, named := ["math/bits.deBruijn64tab", "errors.errorType"], plainKeys := false, apart := false, laid := [("math/bits.deBruijn64tab", laid_math_bits_deBruijn64tab), ("errors.errorType", laid_errors_errorType)], narrowed := true }
def PolicyFrontUptoSaid : Prop := policyFrontUptoRow.holds Tryd.pinned (OpenSpec.upto policyFrontSpec)

/-- 'watershedkeep.PolicyApart', WHERE WHAT IT READS IS OF BULK AT MOST 1048576: true; the input reads as it did. -/
def policyApartUptoRow : OpenClaim := { program := "ytgnhcmdmlcjpkaadoor", sum := "c1f4f1a3fb50e48d6e12fa27c7c796cf23ef8f341790788c2f30687ebb3c3de1", func := "watershed/watershedkeep.PolicyApart", spec := "policyApart", inPlace := ["internal/reflectlite.ValueOf", "(internal/reflectlite.Value).Type", "(internal/reflectlite.Value).IsNil", "internal/reflectlite.TypeOf", "(internal/reflectlite.Value).Elem", "(internal/reflectlite.Value).Set"], unfollowed := true, recurses := true, named := ["math/bits.deBruijn64tab", "errors.errorType"], plainKeys := false, apart := false, laid := [("math/bits.deBruijn64tab", laid_math_bits_deBruijn64tab), ("errors.errorType", laid_errors_errorType)], narrowed := true }
def PolicyApartUptoSaid : Prop := policyApartUptoRow.holds Tryd.pinned (OpenSpec.upto policyApartSpec)

/-- 'watershedkeep.OrderDilworth', WHERE WHAT IT READS IS OF BULK AT MOST 1048576: true; the input reads as it did. -/
def orderDilworthUptoRow : OpenClaim := { program := "ytgnhcmdmlcjpkaadoor", sum := "c1f4f1a3fb50e48d6e12fa27c7c796cf23ef8f341790788c2f30687ebb3c3de1", func := "watershed/watershedkeep.OrderDilworth", spec := "orderDilworth", unfollowed := true, recurses := true, named := ["math/bits.deBruijn64tab"], plainKeys := false, apart := false, laid := [("math/bits.deBruijn64tab", laid_math_bits_deBruijn64tab)], narrowed := true }
def OrderDilworthUptoSaid : Prop := orderDilworthUptoRow.holds Tryd.pinned (OpenSpec.upto orderDilworthSpec)

end Rows
end Go.Proofs.YtgnhcmdmlcjpkaaDoor
