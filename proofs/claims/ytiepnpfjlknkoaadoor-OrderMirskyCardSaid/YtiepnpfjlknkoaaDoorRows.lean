/-
  NARROWER THAN 'FOR EVERY INPUT', by the rows' own cells (each row's printed sentence says how): PolarArmstrong: laid · PolarGalois: laid · PolarCloses: laid · OrderSzpilrajn: laid · OrderLeast: laid · OrderDual: laid · OrderHasse: laid · OrderMirsky: laid · DownsCloses: laid · DownsAntichains: laid · LatticeAlgebra: laid · LatticeBounds: laid.
  DERIVED. THE GIVEN ROWS OF THIS SEAT. 12 by the template 'for every input the law returns true; each argument reads behind the call as it read before'; 0 by the template 'total and deterministic' (their statements: YtiepnpfjlknkoaaDoorTotals.lean).
  GIVEN WITH THE SEED: the statements are not yours to turn. If you find one false, say at which input.
  Laid BY PROGRAM, IN A SANDBOX (cutbox-rows.mjs): the forced cells as the released guide's own fill.sh prints them over the translation 84303094d61414c0… (all of the seat's roots in one cut). By AI agents, Wed Nov 11 2026. No macro, syntax, notation, axiom, sorry.
-/
import Derived.Test.YtiepnpfjlknkoaaDoorChecked
import GoSem.Claim
import GoSem.ClaimJoined
import GoSem.ClaimMapViews
import Derived.JoinedTies
import Derived.KernelRfl
namespace Go.Proofs.YtiepnpfjlknkoaaDoor
/- THE CELL 'sum', in the pinned program and in every row, IS THE sha256 OF THE DUMP (.gsa) THAT YtiepnpfjlknkoaaDoorProg.lean LOADS. Nothing in Lean hashes anything: it is a label: what it is worth is what the hold of that sum in a sandbox is worth. -/
noncomputable def Tryd.pinned : Pinned := { name := "ytiepnpfjlknkoaadoor", sum := "84303094d61414c062e1622a8c7797550f695fd566e775b5b57442f68e4e5618", checked := Tryd.checked }
namespace Rows
def none {H : Type} : Left H := { results := [], args := [] }

/- WHAT THE LISTED PACKAGE-LEVEL VARIABLES READ AS WHEN THE CALL BEGINS. Each datum BY PROGRAM (the guide's laid-datum.mjs) off the statement by which the dump's own 'gosem.cut.vars' lays the variable. In a bare row this is a premise. The card (YtiepnpfjlknkoaaDoorCards.lean) ties it to the program's text. -/
def laid_math_bits_deBruijn64tab {H : Type} : DataW H := .agg [.lit (.int .u8 0), .lit (.int .u8 1), .lit (.int .u8 56), .lit (.int .u8 2), .lit (.int .u8 57), .lit (.int .u8 49), .lit (.int .u8 28), .lit (.int .u8 3), .lit (.int .u8 61), .lit (.int .u8 58), .lit (.int .u8 42), .lit (.int .u8 50), .lit (.int .u8 38), .lit (.int .u8 29), .lit (.int .u8 17), .lit (.int .u8 4), .lit (.int .u8 62), .lit (.int .u8 47), .lit (.int .u8 59), .lit (.int .u8 36), .lit (.int .u8 45), .lit (.int .u8 43), .lit (.int .u8 51), .lit (.int .u8 22), .lit (.int .u8 53), .lit (.int .u8 39), .lit (.int .u8 33), .lit (.int .u8 30), .lit (.int .u8 24), .lit (.int .u8 18), .lit (.int .u8 12), .lit (.int .u8 5), .lit (.int .u8 63), .lit (.int .u8 55), .lit (.int .u8 48), .lit (.int .u8 27), .lit (.int .u8 60), .lit (.int .u8 41), .lit (.int .u8 37), .lit (.int .u8 16), .lit (.int .u8 46), .lit (.int .u8 35), .lit (.int .u8 44), .lit (.int .u8 21), .lit (.int .u8 52), .lit (.int .u8 32), .lit (.int .u8 23), .lit (.int .u8 11), .lit (.int .u8 54), .lit (.int .u8 26), .lit (.int .u8 40), .lit (.int .u8 15), .lit (.int .u8 34), .lit (.int .u8 20), .lit (.int .u8 31), .lit (.int .u8 10), .lit (.int .u8 25), .lit (.int .u8 14), .lit (.int .u8 19), .lit (.int .u8 9), .lit (.int .u8 13), .lit (.int .u8 8), .lit (.int .u8 7), .lit (.int .u8 6)]

/-- 'watershedkeep.PolarArmstrong': WHATEVER THE INPUT: true; the input reads as it did. -/
def polarArmstrongSpec : ChangeSpec := { name := "polarArmstrong", fn := fun _ => fun
  | [d1, d2, d3, d4] => { results := [.lit (.bool true)], args := [d1, d2, d3, d4] }
  | _ => none }
def polarArmstrongRow : OpenClaim := { program := "ytiepnpfjlknkoaadoor", sum := "84303094d61414c062e1622a8c7797550f695fd566e775b5b57442f68e4e5618", func := "watershed/watershedkeep.PolarArmstrong", spec := "polarArmstrong", unfollowed := true, recurses := true, named := ["math/bits.deBruijn64tab"], apart := false, laid := [("math/bits.deBruijn64tab", laid_math_bits_deBruijn64tab)] }
def PolarArmstrongSaid : Prop := polarArmstrongRow.holds Tryd.pinned (OpenSpec.ofChange polarArmstrongSpec)

/-- ITS FALSE NEIGHBOUR: 'it returns false'. Refute it at one input. -/
def polarArmstrongWrong : ChangeSpec := { name := "polarArmstrong", fn := fun _ => fun
  | [d1, d2, d3, d4] => { results := [.lit (.bool false)], args := [d1, d2, d3, d4] }
  | _ => none }
def PolarArmstrongWrongFalsely : Prop := polarArmstrongRow.holds Tryd.pinned (OpenSpec.ofChange polarArmstrongWrong)

/-- 'watershedkeep.PolarGalois': WHATEVER THE INPUT: true; the input reads as it did. -/
def polarGaloisSpec : ChangeSpec := { name := "polarGalois", fn := fun _ => fun
  | [d1, d2, d3] => { results := [.lit (.bool true)], args := [d1, d2, d3] }
  | _ => none }
def polarGaloisRow : OpenClaim := { program := "ytiepnpfjlknkoaadoor", sum := "84303094d61414c062e1622a8c7797550f695fd566e775b5b57442f68e4e5618", func := "watershed/watershedkeep.PolarGalois", spec := "polarGalois", unfollowed := true, recurses := true, named := ["math/bits.deBruijn64tab"], apart := false, laid := [("math/bits.deBruijn64tab", laid_math_bits_deBruijn64tab)] }
def PolarGaloisSaid : Prop := polarGaloisRow.holds Tryd.pinned (OpenSpec.ofChange polarGaloisSpec)

/-- ITS FALSE NEIGHBOUR: 'it returns false'. Refute it at one input. -/
def polarGaloisWrong : ChangeSpec := { name := "polarGalois", fn := fun _ => fun
  | [d1, d2, d3] => { results := [.lit (.bool false)], args := [d1, d2, d3] }
  | _ => none }
def PolarGaloisWrongFalsely : Prop := polarGaloisRow.holds Tryd.pinned (OpenSpec.ofChange polarGaloisWrong)

/-- 'watershedkeep.PolarCloses': WHATEVER THE INPUT: true; the input reads as it did. -/
def polarClosesSpec : ChangeSpec := { name := "polarCloses", fn := fun _ => fun
  | [d1, d2, d3] => { results := [.lit (.bool true)], args := [d1, d2, d3] }
  | _ => none }
def polarClosesRow : OpenClaim := { program := "ytiepnpfjlknkoaadoor", sum := "84303094d61414c062e1622a8c7797550f695fd566e775b5b57442f68e4e5618", func := "watershed/watershedkeep.PolarCloses", spec := "polarCloses", unfollowed := true, recurses := true, named := ["math/bits.deBruijn64tab"], apart := false, laid := [("math/bits.deBruijn64tab", laid_math_bits_deBruijn64tab)] }
def PolarClosesSaid : Prop := polarClosesRow.holds Tryd.pinned (OpenSpec.ofChange polarClosesSpec)

/-- ITS FALSE NEIGHBOUR: 'it returns false'. Refute it at one input. -/
def polarClosesWrong : ChangeSpec := { name := "polarCloses", fn := fun _ => fun
  | [d1, d2, d3] => { results := [.lit (.bool false)], args := [d1, d2, d3] }
  | _ => none }
def PolarClosesWrongFalsely : Prop := polarClosesRow.holds Tryd.pinned (OpenSpec.ofChange polarClosesWrong)

/-- 'watershedkeep.OrderSzpilrajn': WHATEVER THE INPUT: true; the input reads as it did. -/
def orderSzpilrajnSpec : ChangeSpec := { name := "orderSzpilrajn", fn := fun _ => fun
  | [d] => { results := [.lit (.bool true)], args := [d] }
  | _ => none }
def orderSzpilrajnRow : OpenClaim := { program := "ytiepnpfjlknkoaadoor", sum := "84303094d61414c062e1622a8c7797550f695fd566e775b5b57442f68e4e5618", func := "watershed/watershedkeep.OrderSzpilrajn", spec := "orderSzpilrajn", unfollowed := true, recurses := true, named := ["math/bits.deBruijn64tab"], apart := false, laid := [("math/bits.deBruijn64tab", laid_math_bits_deBruijn64tab)] }
def OrderSzpilrajnSaid : Prop := orderSzpilrajnRow.holds Tryd.pinned (OpenSpec.ofChange orderSzpilrajnSpec)

/-- ITS FALSE NEIGHBOUR: 'it returns false'. Refute it at one input. -/
def orderSzpilrajnWrong : ChangeSpec := { name := "orderSzpilrajn", fn := fun _ => fun
  | [d] => { results := [.lit (.bool false)], args := [d] }
  | _ => none }
def OrderSzpilrajnWrongFalsely : Prop := orderSzpilrajnRow.holds Tryd.pinned (OpenSpec.ofChange orderSzpilrajnWrong)

/-- 'watershedkeep.OrderLeast': WHATEVER THE INPUT: true; the input reads as it did. -/
def orderLeastSpec : ChangeSpec := { name := "orderLeast", fn := fun _ => fun
  | [d1, d2] => { results := [.lit (.bool true)], args := [d1, d2] }
  | _ => none }
def orderLeastRow : OpenClaim := { program := "ytiepnpfjlknkoaadoor", sum := "84303094d61414c062e1622a8c7797550f695fd566e775b5b57442f68e4e5618", func := "watershed/watershedkeep.OrderLeast", spec := "orderLeast", unfollowed := true, recurses := true, named := ["math/bits.deBruijn64tab"], apart := false, laid := [("math/bits.deBruijn64tab", laid_math_bits_deBruijn64tab)] }
def OrderLeastSaid : Prop := orderLeastRow.holds Tryd.pinned (OpenSpec.ofChange orderLeastSpec)

/-- ITS FALSE NEIGHBOUR: 'it returns false'. Refute it at one input. -/
def orderLeastWrong : ChangeSpec := { name := "orderLeast", fn := fun _ => fun
  | [d1, d2] => { results := [.lit (.bool false)], args := [d1, d2] }
  | _ => none }
def OrderLeastWrongFalsely : Prop := orderLeastRow.holds Tryd.pinned (OpenSpec.ofChange orderLeastWrong)

/-- 'watershedkeep.OrderDual': WHATEVER THE INPUT: true; the input reads as it did. -/
def orderDualSpec : ChangeSpec := { name := "orderDual", fn := fun _ => fun
  | [d] => { results := [.lit (.bool true)], args := [d] }
  | _ => none }
def orderDualRow : OpenClaim := { program := "ytiepnpfjlknkoaadoor", sum := "84303094d61414c062e1622a8c7797550f695fd566e775b5b57442f68e4e5618", func := "watershed/watershedkeep.OrderDual", spec := "orderDual", unfollowed := true, recurses := true, named := ["math/bits.deBruijn64tab"], apart := false, laid := [("math/bits.deBruijn64tab", laid_math_bits_deBruijn64tab)] }
def OrderDualSaid : Prop := orderDualRow.holds Tryd.pinned (OpenSpec.ofChange orderDualSpec)

/-- ITS FALSE NEIGHBOUR: 'it returns false'. Refute it at one input. -/
def orderDualWrong : ChangeSpec := { name := "orderDual", fn := fun _ => fun
  | [d] => { results := [.lit (.bool false)], args := [d] }
  | _ => none }
def OrderDualWrongFalsely : Prop := orderDualRow.holds Tryd.pinned (OpenSpec.ofChange orderDualWrong)

/-- 'watershedkeep.OrderHasse': WHATEVER THE INPUT: true; the input reads as it did. -/
def orderHasseSpec : ChangeSpec := { name := "orderHasse", fn := fun _ => fun
  | [d] => { results := [.lit (.bool true)], args := [d] }
  | _ => none }
def orderHasseRow : OpenClaim := { program := "ytiepnpfjlknkoaadoor", sum := "84303094d61414c062e1622a8c7797550f695fd566e775b5b57442f68e4e5618", func := "watershed/watershedkeep.OrderHasse", spec := "orderHasse", unfollowed := true, recurses := true, named := ["math/bits.deBruijn64tab"], apart := false, laid := [("math/bits.deBruijn64tab", laid_math_bits_deBruijn64tab)] }
def OrderHasseSaid : Prop := orderHasseRow.holds Tryd.pinned (OpenSpec.ofChange orderHasseSpec)

/-- ITS FALSE NEIGHBOUR: 'it returns false'. Refute it at one input. -/
def orderHasseWrong : ChangeSpec := { name := "orderHasse", fn := fun _ => fun
  | [d] => { results := [.lit (.bool false)], args := [d] }
  | _ => none }
def OrderHasseWrongFalsely : Prop := orderHasseRow.holds Tryd.pinned (OpenSpec.ofChange orderHasseWrong)

/-- 'watershedkeep.OrderMirsky': WHATEVER THE INPUT: true; the input reads as it did. -/
def orderMirskySpec : ChangeSpec := { name := "orderMirsky", fn := fun _ => fun
  | [d1, d2] => { results := [.lit (.bool true)], args := [d1, d2] }
  | _ => none }
def orderMirskyRow : OpenClaim := { program := "ytiepnpfjlknkoaadoor", sum := "84303094d61414c062e1622a8c7797550f695fd566e775b5b57442f68e4e5618", func := "watershed/watershedkeep.OrderMirsky", spec := "orderMirsky", unfollowed := true, recurses := true, named := ["math/bits.deBruijn64tab"], apart := false, laid := [("math/bits.deBruijn64tab", laid_math_bits_deBruijn64tab)] }
def OrderMirskySaid : Prop := orderMirskyRow.holds Tryd.pinned (OpenSpec.ofChange orderMirskySpec)

/-- ITS FALSE NEIGHBOUR: 'it returns false'. Refute it at one input. -/
def orderMirskyWrong : ChangeSpec := { name := "orderMirsky", fn := fun _ => fun
  | [d1, d2] => { results := [.lit (.bool false)], args := [d1, d2] }
  | _ => none }
def OrderMirskyWrongFalsely : Prop := orderMirskyRow.holds Tryd.pinned (OpenSpec.ofChange orderMirskyWrong)

/-- 'watershedkeep.DownsCloses': WHATEVER THE INPUT: true; the input reads as it did. -/
def downsClosesSpec : ChangeSpec := { name := "downsCloses", fn := fun _ => fun
  | [d1, d2, d3] => { results := [.lit (.bool true)], args := [d1, d2, d3] }
  | _ => none }
def downsClosesRow : OpenClaim := { program := "ytiepnpfjlknkoaadoor", sum := "84303094d61414c062e1622a8c7797550f695fd566e775b5b57442f68e4e5618", func := "watershed/watershedkeep.DownsCloses", spec := "downsCloses", unfollowed := true, recurses := true, named := ["math/bits.deBruijn64tab"], apart := false, laid := [("math/bits.deBruijn64tab", laid_math_bits_deBruijn64tab)] }
def DownsClosesSaid : Prop := downsClosesRow.holds Tryd.pinned (OpenSpec.ofChange downsClosesSpec)

/-- ITS FALSE NEIGHBOUR: 'it returns false'. Refute it at one input. -/
def downsClosesWrong : ChangeSpec := { name := "downsCloses", fn := fun _ => fun
  | [d1, d2, d3] => { results := [.lit (.bool false)], args := [d1, d2, d3] }
  | _ => none }
def DownsClosesWrongFalsely : Prop := downsClosesRow.holds Tryd.pinned (OpenSpec.ofChange downsClosesWrong)

/-- 'watershedkeep.DownsAntichains': WHATEVER THE INPUT: true; the input reads as it did. -/
def downsAntichainsSpec : ChangeSpec := { name := "downsAntichains", fn := fun _ => fun
  | [d1, d2] => { results := [.lit (.bool true)], args := [d1, d2] }
  | _ => none }
def downsAntichainsRow : OpenClaim := { program := "ytiepnpfjlknkoaadoor", sum := "84303094d61414c062e1622a8c7797550f695fd566e775b5b57442f68e4e5618", func := "watershed/watershedkeep.DownsAntichains", spec := "downsAntichains", unfollowed := true, recurses := true, named := ["math/bits.deBruijn64tab"], apart := false, laid := [("math/bits.deBruijn64tab", laid_math_bits_deBruijn64tab)] }
def DownsAntichainsSaid : Prop := downsAntichainsRow.holds Tryd.pinned (OpenSpec.ofChange downsAntichainsSpec)

/-- ITS FALSE NEIGHBOUR: 'it returns false'. Refute it at one input. -/
def downsAntichainsWrong : ChangeSpec := { name := "downsAntichains", fn := fun _ => fun
  | [d1, d2] => { results := [.lit (.bool false)], args := [d1, d2] }
  | _ => none }
def DownsAntichainsWrongFalsely : Prop := downsAntichainsRow.holds Tryd.pinned (OpenSpec.ofChange downsAntichainsWrong)

/-- 'watershedkeep.LatticeAlgebra': WHATEVER THE INPUT: true; the input reads as it did. -/
def latticeAlgebraSpec : ChangeSpec := { name := "latticeAlgebra", fn := fun _ => fun
  | [d1, d2, d3, d4] => { results := [.lit (.bool true)], args := [d1, d2, d3, d4] }
  | _ => none }
def latticeAlgebraRow : OpenClaim := { program := "ytiepnpfjlknkoaadoor", sum := "84303094d61414c062e1622a8c7797550f695fd566e775b5b57442f68e4e5618", func := "watershed/watershedkeep.LatticeAlgebra", spec := "latticeAlgebra", unfollowed := true, recurses := true, named := ["math/bits.deBruijn64tab"], apart := false, laid := [("math/bits.deBruijn64tab", laid_math_bits_deBruijn64tab)] }
def LatticeAlgebraSaid : Prop := latticeAlgebraRow.holds Tryd.pinned (OpenSpec.ofChange latticeAlgebraSpec)

/-- ITS FALSE NEIGHBOUR: 'it returns false'. Refute it at one input. -/
def latticeAlgebraWrong : ChangeSpec := { name := "latticeAlgebra", fn := fun _ => fun
  | [d1, d2, d3, d4] => { results := [.lit (.bool false)], args := [d1, d2, d3, d4] }
  | _ => none }
def LatticeAlgebraWrongFalsely : Prop := latticeAlgebraRow.holds Tryd.pinned (OpenSpec.ofChange latticeAlgebraWrong)

/-- 'watershedkeep.LatticeBounds': WHATEVER THE INPUT: true; the input reads as it did. -/
def latticeBoundsSpec : ChangeSpec := { name := "latticeBounds", fn := fun _ => fun
  | [d1, d2, d3, d4] => { results := [.lit (.bool true)], args := [d1, d2, d3, d4] }
  | _ => none }
def latticeBoundsRow : OpenClaim := { program := "ytiepnpfjlknkoaadoor", sum := "84303094d61414c062e1622a8c7797550f695fd566e775b5b57442f68e4e5618", func := "watershed/watershedkeep.LatticeBounds", spec := "latticeBounds", unfollowed := true, recurses := true, named := ["math/bits.deBruijn64tab"], apart := false, laid := [("math/bits.deBruijn64tab", laid_math_bits_deBruijn64tab)] }
def LatticeBoundsSaid : Prop := latticeBoundsRow.holds Tryd.pinned (OpenSpec.ofChange latticeBoundsSpec)

/-- ITS FALSE NEIGHBOUR: 'it returns false'. Refute it at one input. -/
def latticeBoundsWrong : ChangeSpec := { name := "latticeBounds", fn := fun _ => fun
  | [d1, d2, d3, d4] => { results := [.lit (.bool false)], args := [d1, d2, d3, d4] }
  | _ => none }
def LatticeBoundsWrongFalsely : Prop := latticeBoundsRow.holds Tryd.pinned (OpenSpec.ofChange latticeBoundsWrong)

/- THE SECOND FORM. 'bulk': how many values and letters a reading holds, each counted each time it is reached (what is shared counts as often as it is met; a slice's spare places count too). A statement '..UptoSaid' is the law's where the arguments, and the package variables that the reading takes, are together of bulk at most 1048576: NARROWER than '..Said'. Prove '..Said' where nothing that the law and all that it calls make is longer than what came in: it says more and counts as full. Else prove '..UptoSaid'. A law counts once. -/
mutual
def uptoBulk {H : Type} : DataW H → Nat
  | .lit (.string bytes) => bytes.length + 1
  | .lit _ => 1
  | .nil => 1
  | .ptr d => uptoBulk d + 1
  | .slice elems spare => uptoBulkAll elems + uptoBulkAll spare + 1
  | .agg parts => uptoBulkAll parts + 1
  | .iface _ d => uptoBulk d + 1
  | .map entries => uptoBulkEntries entries + 1
  | .held _ => 1
def uptoBulkAll {H : Type} : List (DataW H) → Nat
  | [] => 0
  | d :: r => uptoBulk d + uptoBulkAll r
def uptoBulkEntries {H : Type} : List (Lit × DataW H) → Nat
  | [] => 0
  | x :: r => uptoBulkEntry x + uptoBulkEntries r
def uptoBulkEntry {H : Type} : Lit × DataW H → Nat
  | (.string bytes, d) => bytes.length + uptoBulk d + 1
  | (_, d) => uptoBulk d + 1
 end
def uptoSmall : (H : Type) → List (DataW H) → Bool := fun _ ds => decide (uptoBulkAll ds ≤ 1048576)
def OpenSpec.upto (s : _root_.Go.ChangeSpec) : _root_.Go.OpenSpec := { _root_.Go.OpenSpec.ofChange s with cond := some uptoSmall }

/-- 'watershedkeep.PolarArmstrong', WHERE WHAT IT READS IS OF BULK AT MOST 1048576: true; the input reads as it did. -/
def polarArmstrongUptoRow : OpenClaim := { program := "ytiepnpfjlknkoaadoor", sum := "84303094d61414c062e1622a8c7797550f695fd566e775b5b57442f68e4e5618", func := "watershed/watershedkeep.PolarArmstrong", spec := "polarArmstrong", unfollowed := true, recurses := true, named := ["math/bits.deBruijn64tab"], apart := false, laid := [("math/bits.deBruijn64tab", laid_math_bits_deBruijn64tab)], narrowed := true }
def PolarArmstrongUptoSaid : Prop := polarArmstrongUptoRow.holds Tryd.pinned (OpenSpec.upto polarArmstrongSpec)

/-- 'watershedkeep.PolarGalois', WHERE WHAT IT READS IS OF BULK AT MOST 1048576: true; the input reads as it did. -/
def polarGaloisUptoRow : OpenClaim := { program := "ytiepnpfjlknkoaadoor", sum := "84303094d61414c062e1622a8c7797550f695fd566e775b5b57442f68e4e5618", func := "watershed/watershedkeep.PolarGalois", spec := "polarGalois", unfollowed := true, recurses := true, named := ["math/bits.deBruijn64tab"], apart := false, laid := [("math/bits.deBruijn64tab", laid_math_bits_deBruijn64tab)], narrowed := true }
def PolarGaloisUptoSaid : Prop := polarGaloisUptoRow.holds Tryd.pinned (OpenSpec.upto polarGaloisSpec)

/-- 'watershedkeep.PolarCloses', WHERE WHAT IT READS IS OF BULK AT MOST 1048576: true; the input reads as it did. -/
def polarClosesUptoRow : OpenClaim := { program := "ytiepnpfjlknkoaadoor", sum := "84303094d61414c062e1622a8c7797550f695fd566e775b5b57442f68e4e5618", func := "watershed/watershedkeep.PolarCloses", spec := "polarCloses", unfollowed := true, recurses := true, named := ["math/bits.deBruijn64tab"], apart := false, laid := [("math/bits.deBruijn64tab", laid_math_bits_deBruijn64tab)], narrowed := true }
def PolarClosesUptoSaid : Prop := polarClosesUptoRow.holds Tryd.pinned (OpenSpec.upto polarClosesSpec)

/-- 'watershedkeep.OrderSzpilrajn', WHERE WHAT IT READS IS OF BULK AT MOST 1048576: true; the input reads as it did. -/
def orderSzpilrajnUptoRow : OpenClaim := { program := "ytiepnpfjlknkoaadoor", sum := "84303094d61414c062e1622a8c7797550f695fd566e775b5b57442f68e4e5618", func := "watershed/watershedkeep.OrderSzpilrajn", spec := "orderSzpilrajn", unfollowed := true, recurses := true, named := ["math/bits.deBruijn64tab"], apart := false, laid := [("math/bits.deBruijn64tab", laid_math_bits_deBruijn64tab)], narrowed := true }
def OrderSzpilrajnUptoSaid : Prop := orderSzpilrajnUptoRow.holds Tryd.pinned (OpenSpec.upto orderSzpilrajnSpec)

/-- 'watershedkeep.OrderLeast', WHERE WHAT IT READS IS OF BULK AT MOST 1048576: true; the input reads as it did. -/
def orderLeastUptoRow : OpenClaim := { program := "ytiepnpfjlknkoaadoor", sum := "84303094d61414c062e1622a8c7797550f695fd566e775b5b57442f68e4e5618", func := "watershed/watershedkeep.OrderLeast", spec := "orderLeast", unfollowed := true, recurses := true, named := ["math/bits.deBruijn64tab"], apart := false, laid := [("math/bits.deBruijn64tab", laid_math_bits_deBruijn64tab)], narrowed := true }
def OrderLeastUptoSaid : Prop := orderLeastUptoRow.holds Tryd.pinned (OpenSpec.upto orderLeastSpec)

/-- 'watershedkeep.OrderDual', WHERE WHAT IT READS IS OF BULK AT MOST 1048576: true; the input reads as it did. -/
def orderDualUptoRow : OpenClaim := { program := "ytiepnpfjlknkoaadoor", sum := "84303094d61414c062e1622a8c7797550f695fd566e775b5b57442f68e4e5618", func := "watershed/watershedkeep.OrderDual", spec := "orderDual", unfollowed := true, recurses := true, named := ["math/bits.deBruijn64tab"], apart := false, laid := [("math/bits.deBruijn64tab", laid_math_bits_deBruijn64tab)], narrowed := true }
def OrderDualUptoSaid : Prop := orderDualUptoRow.holds Tryd.pinned (OpenSpec.upto orderDualSpec)

/-- 'watershedkeep.OrderHasse', WHERE WHAT IT READS IS OF BULK AT MOST 1048576: true; the input reads as it did. -/
def orderHasseUptoRow : OpenClaim := { program := "ytiepnpfjlknkoaadoor", sum := "84303094d61414c062e1622a8c7797550f695fd566e775b5b57442f68e4e5618", func := "watershed/watershedkeep.OrderHasse", spec := "orderHasse", unfollowed := true, recurses := true, named := ["math/bits.deBruijn64tab"], apart := false, laid := [("math/bits.deBruijn64tab", laid_math_bits_deBruijn64tab)], narrowed := true }
def OrderHasseUptoSaid : Prop := orderHasseUptoRow.holds Tryd.pinned (OpenSpec.upto orderHasseSpec)

/-- 'watershedkeep.OrderMirsky', WHERE WHAT IT READS IS OF BULK AT MOST 1048576: true; the input reads as it did. -/
def orderMirskyUptoRow : OpenClaim := { program := "ytiepnpfjlknkoaadoor", sum := "84303094d61414c062e1622a8c7797550f695fd566e775b5b57442f68e4e5618", func := "watershed/watershedkeep.OrderMirsky", spec := "orderMirsky", unfollowed := true, recurses := true, named := ["math/bits.deBruijn64tab"], apart := false, laid := [("math/bits.deBruijn64tab", laid_math_bits_deBruijn64tab)], narrowed := true }
def OrderMirskyUptoSaid : Prop := orderMirskyUptoRow.holds Tryd.pinned (OpenSpec.upto orderMirskySpec)

/-- 'watershedkeep.DownsCloses', WHERE WHAT IT READS IS OF BULK AT MOST 1048576: true; the input reads as it did. -/
def downsClosesUptoRow : OpenClaim := { program := "ytiepnpfjlknkoaadoor", sum := "84303094d61414c062e1622a8c7797550f695fd566e775b5b57442f68e4e5618", func := "watershed/watershedkeep.DownsCloses", spec := "downsCloses", unfollowed := true, recurses := true, named := ["math/bits.deBruijn64tab"], apart := false, laid := [("math/bits.deBruijn64tab", laid_math_bits_deBruijn64tab)], narrowed := true }
def DownsClosesUptoSaid : Prop := downsClosesUptoRow.holds Tryd.pinned (OpenSpec.upto downsClosesSpec)

/-- 'watershedkeep.DownsAntichains', WHERE WHAT IT READS IS OF BULK AT MOST 1048576: true; the input reads as it did. -/
def downsAntichainsUptoRow : OpenClaim := { program := "ytiepnpfjlknkoaadoor", sum := "84303094d61414c062e1622a8c7797550f695fd566e775b5b57442f68e4e5618", func := "watershed/watershedkeep.DownsAntichains", spec := "downsAntichains", unfollowed := true, recurses := true, named := ["math/bits.deBruijn64tab"], apart := false, laid := [("math/bits.deBruijn64tab", laid_math_bits_deBruijn64tab)], narrowed := true }
def DownsAntichainsUptoSaid : Prop := downsAntichainsUptoRow.holds Tryd.pinned (OpenSpec.upto downsAntichainsSpec)

/-- 'watershedkeep.LatticeAlgebra', WHERE WHAT IT READS IS OF BULK AT MOST 1048576: true; the input reads as it did. -/
def latticeAlgebraUptoRow : OpenClaim := { program := "ytiepnpfjlknkoaadoor", sum := "84303094d61414c062e1622a8c7797550f695fd566e775b5b57442f68e4e5618", func := "watershed/watershedkeep.LatticeAlgebra", spec := "latticeAlgebra", unfollowed := true, recurses := true, named := ["math/bits.deBruijn64tab"], apart := false, laid := [("math/bits.deBruijn64tab", laid_math_bits_deBruijn64tab)], narrowed := true }
def LatticeAlgebraUptoSaid : Prop := latticeAlgebraUptoRow.holds Tryd.pinned (OpenSpec.upto latticeAlgebraSpec)

/-- 'watershedkeep.LatticeBounds', WHERE WHAT IT READS IS OF BULK AT MOST 1048576: true; the input reads as it did. -/
def latticeBoundsUptoRow : OpenClaim := { program := "ytiepnpfjlknkoaadoor", sum := "84303094d61414c062e1622a8c7797550f695fd566e775b5b57442f68e4e5618", func := "watershed/watershedkeep.LatticeBounds", spec := "latticeBounds", unfollowed := true, recurses := true, named := ["math/bits.deBruijn64tab"], apart := false, laid := [("math/bits.deBruijn64tab", laid_math_bits_deBruijn64tab)], narrowed := true }
def LatticeBoundsUptoSaid : Prop := latticeBoundsUptoRow.holds Tryd.pinned (OpenSpec.upto latticeBoundsSpec)

end Rows
end Go.Proofs.YtiepnpfjlknkoaaDoor
