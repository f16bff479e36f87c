/-
  NARROWER THAN 'FOR EVERY INPUT', by the rows' own cells (each row's printed sentence says how): LatticeDual: laid · LatticeDistributes: laid · LatticeMedian: laid · LatticeDedekind: laid · LatticeCancels: laid · LatticeGenerated: laid · LatticeCloses: laid · FixedTarski: laid · FixedRolls: laid · FixedGrows: laid · FixedDual: laid · FixedGalois: laid.
  DERIVED. THE GIVEN ROWS OF THIS SEAT. 12 by the template 'for every input the law returns true; each argument reads behind the call as it read before'; 0 by the template 'total and deterministic' (their statements: YtdbjfdjpmoackaaDoorTotals.lean).
  GIVEN WITH THE SEED: the statements are not yours to turn. If you find one false, say at which input.
  Laid BY PROGRAM, IN A SANDBOX (cutbox-rows.mjs): the forced cells as the released guide's own fill.sh prints them over the translation c09808ffcbd556af… (all of the seat's roots in one cut). By AI agents, Wed Nov 11 2026. No macro, syntax, notation, axiom, sorry.
-/
import Derived.Test.YtdbjfdjpmoackaaDoorChecked
import GoSem.Claim
import GoSem.ClaimJoined
import GoSem.ClaimMapViews
import Derived.JoinedTies
import Derived.KernelRfl
namespace Go.Proofs.YtdbjfdjpmoackaaDoor
/- THE CELL 'sum', in the pinned program and in every row, IS THE sha256 OF THE DUMP (.gsa) THAT YtdbjfdjpmoackaaDoorProg.lean LOADS. Nothing in Lean hashes anything: it is a label: what it is worth is what the hold of that sum in a sandbox is worth. -/
noncomputable def Tryd.pinned : Pinned := { name := "ytdbjfdjpmoackaadoor", sum := "c09808ffcbd556af68c2ea4e38d1a0f012edd95a021f7c17c8157cbae5fd4e52", checked := Tryd.checked }
namespace Rows
def none {H : Type} : Left H := { results := [], args := [] }

/- WHAT THE LISTED PACKAGE-LEVEL VARIABLES READ AS WHEN THE CALL BEGINS. Each datum BY PROGRAM (the guide's laid-datum.mjs) off the statement by which the dump's own 'gosem.cut.vars' lays the variable. In a bare row this is a premise. The card (YtdbjfdjpmoackaaDoorCards.lean) ties it to the program's text. -/
def laid_math_bits_deBruijn64tab {H : Type} : DataW H := .agg [.lit (.int .u8 0), .lit (.int .u8 1), .lit (.int .u8 56), .lit (.int .u8 2), .lit (.int .u8 57), .lit (.int .u8 49), .lit (.int .u8 28), .lit (.int .u8 3), .lit (.int .u8 61), .lit (.int .u8 58), .lit (.int .u8 42), .lit (.int .u8 50), .lit (.int .u8 38), .lit (.int .u8 29), .lit (.int .u8 17), .lit (.int .u8 4), .lit (.int .u8 62), .lit (.int .u8 47), .lit (.int .u8 59), .lit (.int .u8 36), .lit (.int .u8 45), .lit (.int .u8 43), .lit (.int .u8 51), .lit (.int .u8 22), .lit (.int .u8 53), .lit (.int .u8 39), .lit (.int .u8 33), .lit (.int .u8 30), .lit (.int .u8 24), .lit (.int .u8 18), .lit (.int .u8 12), .lit (.int .u8 5), .lit (.int .u8 63), .lit (.int .u8 55), .lit (.int .u8 48), .lit (.int .u8 27), .lit (.int .u8 60), .lit (.int .u8 41), .lit (.int .u8 37), .lit (.int .u8 16), .lit (.int .u8 46), .lit (.int .u8 35), .lit (.int .u8 44), .lit (.int .u8 21), .lit (.int .u8 52), .lit (.int .u8 32), .lit (.int .u8 23), .lit (.int .u8 11), .lit (.int .u8 54), .lit (.int .u8 26), .lit (.int .u8 40), .lit (.int .u8 15), .lit (.int .u8 34), .lit (.int .u8 20), .lit (.int .u8 31), .lit (.int .u8 10), .lit (.int .u8 25), .lit (.int .u8 14), .lit (.int .u8 19), .lit (.int .u8 9), .lit (.int .u8 13), .lit (.int .u8 8), .lit (.int .u8 7), .lit (.int .u8 6)]

/-- 'watershedkeep.LatticeDual': WHATEVER THE INPUT: true; the input reads as it did. -/
def latticeDualSpec : ChangeSpec := { name := "latticeDual", fn := fun _ => fun
  | [d] => { results := [.lit (.bool true)], args := [d] }
  | _ => none }
def latticeDualRow : OpenClaim := { program := "ytdbjfdjpmoackaadoor", sum := "c09808ffcbd556af68c2ea4e38d1a0f012edd95a021f7c17c8157cbae5fd4e52", func := "watershed/watershedkeep.LatticeDual", spec := "latticeDual", unfollowed := true, recurses := true, named := ["math/bits.deBruijn64tab"], apart := false, laid := [("math/bits.deBruijn64tab", laid_math_bits_deBruijn64tab)] }
def LatticeDualSaid : Prop := latticeDualRow.holds Tryd.pinned (OpenSpec.ofChange latticeDualSpec)

/-- ITS FALSE NEIGHBOUR: 'it returns false'. Refute it at one input. -/
def latticeDualWrong : ChangeSpec := { name := "latticeDual", fn := fun _ => fun
  | [d] => { results := [.lit (.bool false)], args := [d] }
  | _ => none }
def LatticeDualWrongFalsely : Prop := latticeDualRow.holds Tryd.pinned (OpenSpec.ofChange latticeDualWrong)

/-- 'watershedkeep.LatticeDistributes': WHATEVER THE INPUT: true; the input reads as it did. -/
def latticeDistributesSpec : ChangeSpec := { name := "latticeDistributes", fn := fun _ => fun
  | [d1, d2, d3, d4] => { results := [.lit (.bool true)], args := [d1, d2, d3, d4] }
  | _ => none }
def latticeDistributesRow : OpenClaim := { program := "ytdbjfdjpmoackaadoor", sum := "c09808ffcbd556af68c2ea4e38d1a0f012edd95a021f7c17c8157cbae5fd4e52", func := "watershed/watershedkeep.LatticeDistributes", spec := "latticeDistributes", unfollowed := true, recurses := true, named := ["math/bits.deBruijn64tab"], apart := false, laid := [("math/bits.deBruijn64tab", laid_math_bits_deBruijn64tab)] }
def LatticeDistributesSaid : Prop := latticeDistributesRow.holds Tryd.pinned (OpenSpec.ofChange latticeDistributesSpec)

/-- ITS FALSE NEIGHBOUR: 'it returns false'. Refute it at one input. -/
def latticeDistributesWrong : ChangeSpec := { name := "latticeDistributes", fn := fun _ => fun
  | [d1, d2, d3, d4] => { results := [.lit (.bool false)], args := [d1, d2, d3, d4] }
  | _ => none }
def LatticeDistributesWrongFalsely : Prop := latticeDistributesRow.holds Tryd.pinned (OpenSpec.ofChange latticeDistributesWrong)

/-- 'watershedkeep.LatticeMedian': WHATEVER THE INPUT: true; the input reads as it did. -/
def latticeMedianSpec : ChangeSpec := { name := "latticeMedian", fn := fun _ => fun
  | [d] => { results := [.lit (.bool true)], args := [d] }
  | _ => none }
def latticeMedianRow : OpenClaim := { program := "ytdbjfdjpmoackaadoor", sum := "c09808ffcbd556af68c2ea4e38d1a0f012edd95a021f7c17c8157cbae5fd4e52", func := "watershed/watershedkeep.LatticeMedian", spec := "latticeMedian", unfollowed := true, recurses := true, named := ["math/bits.deBruijn64tab"], apart := false, laid := [("math/bits.deBruijn64tab", laid_math_bits_deBruijn64tab)] }
def LatticeMedianSaid : Prop := latticeMedianRow.holds Tryd.pinned (OpenSpec.ofChange latticeMedianSpec)

/-- ITS FALSE NEIGHBOUR: 'it returns false'. Refute it at one input. -/
def latticeMedianWrong : ChangeSpec := { name := "latticeMedian", fn := fun _ => fun
  | [d] => { results := [.lit (.bool false)], args := [d] }
  | _ => none }
def LatticeMedianWrongFalsely : Prop := latticeMedianRow.holds Tryd.pinned (OpenSpec.ofChange latticeMedianWrong)

/-- 'watershedkeep.LatticeDedekind': WHATEVER THE INPUT: true; the input reads as it did. -/
def latticeDedekindSpec : ChangeSpec := { name := "latticeDedekind", fn := fun _ => fun
  | [d] => { results := [.lit (.bool true)], args := [d] }
  | _ => none }
def latticeDedekindRow : OpenClaim := { program := "ytdbjfdjpmoackaadoor", sum := "c09808ffcbd556af68c2ea4e38d1a0f012edd95a021f7c17c8157cbae5fd4e52", func := "watershed/watershedkeep.LatticeDedekind", spec := "latticeDedekind", unfollowed := true, recurses := true, named := ["math/bits.deBruijn64tab"], apart := false, laid := [("math/bits.deBruijn64tab", laid_math_bits_deBruijn64tab)] }
def LatticeDedekindSaid : Prop := latticeDedekindRow.holds Tryd.pinned (OpenSpec.ofChange latticeDedekindSpec)

/-- ITS FALSE NEIGHBOUR: 'it returns false'. Refute it at one input. -/
def latticeDedekindWrong : ChangeSpec := { name := "latticeDedekind", fn := fun _ => fun
  | [d] => { results := [.lit (.bool false)], args := [d] }
  | _ => none }
def LatticeDedekindWrongFalsely : Prop := latticeDedekindRow.holds Tryd.pinned (OpenSpec.ofChange latticeDedekindWrong)

/-- 'watershedkeep.LatticeCancels': WHATEVER THE INPUT: true; the input reads as it did. -/
def latticeCancelsSpec : ChangeSpec := { name := "latticeCancels", fn := fun _ => fun
  | [d] => { results := [.lit (.bool true)], args := [d] }
  | _ => none }
def latticeCancelsRow : OpenClaim := { program := "ytdbjfdjpmoackaadoor", sum := "c09808ffcbd556af68c2ea4e38d1a0f012edd95a021f7c17c8157cbae5fd4e52", func := "watershed/watershedkeep.LatticeCancels", spec := "latticeCancels", unfollowed := true, recurses := true, named := ["math/bits.deBruijn64tab"], apart := false, laid := [("math/bits.deBruijn64tab", laid_math_bits_deBruijn64tab)] }
def LatticeCancelsSaid : Prop := latticeCancelsRow.holds Tryd.pinned (OpenSpec.ofChange latticeCancelsSpec)

/-- ITS FALSE NEIGHBOUR: 'it returns false'. Refute it at one input. -/
def latticeCancelsWrong : ChangeSpec := { name := "latticeCancels", fn := fun _ => fun
  | [d] => { results := [.lit (.bool false)], args := [d] }
  | _ => none }
def LatticeCancelsWrongFalsely : Prop := latticeCancelsRow.holds Tryd.pinned (OpenSpec.ofChange latticeCancelsWrong)

/-- 'watershedkeep.LatticeGenerated': WHATEVER THE INPUT: true; the input reads as it did. -/
def latticeGeneratedSpec : ChangeSpec := { name := "latticeGenerated", fn := fun _ => fun
  | [d] => { results := [.lit (.bool true)], args := [d] }
  | _ => none }
def latticeGeneratedRow : OpenClaim := { program := "ytdbjfdjpmoackaadoor", sum := "c09808ffcbd556af68c2ea4e38d1a0f012edd95a021f7c17c8157cbae5fd4e52", func := "watershed/watershedkeep.LatticeGenerated", spec := "latticeGenerated", unfollowed := true, recurses := true, named := ["math/bits.deBruijn64tab"], apart := false, laid := [("math/bits.deBruijn64tab", laid_math_bits_deBruijn64tab)] }
def LatticeGeneratedSaid : Prop := latticeGeneratedRow.holds Tryd.pinned (OpenSpec.ofChange latticeGeneratedSpec)

/-- ITS FALSE NEIGHBOUR: 'it returns false'. Refute it at one input. -/
def latticeGeneratedWrong : ChangeSpec := { name := "latticeGenerated", fn := fun _ => fun
  | [d] => { results := [.lit (.bool false)], args := [d] }
  | _ => none }
def LatticeGeneratedWrongFalsely : Prop := latticeGeneratedRow.holds Tryd.pinned (OpenSpec.ofChange latticeGeneratedWrong)

/-- 'watershedkeep.LatticeCloses': WHATEVER THE INPUT: true; the input reads as it did. -/
def latticeClosesSpec : ChangeSpec := { name := "latticeCloses", fn := fun _ => fun
  | [d1, d2, d3] => { results := [.lit (.bool true)], args := [d1, d2, d3] }
  | _ => none }
def latticeClosesRow : OpenClaim := { program := "ytdbjfdjpmoackaadoor", sum := "c09808ffcbd556af68c2ea4e38d1a0f012edd95a021f7c17c8157cbae5fd4e52", func := "watershed/watershedkeep.LatticeCloses", spec := "latticeCloses", unfollowed := true, recurses := true, named := ["math/bits.deBruijn64tab"], apart := false, laid := [("math/bits.deBruijn64tab", laid_math_bits_deBruijn64tab)] }
def LatticeClosesSaid : Prop := latticeClosesRow.holds Tryd.pinned (OpenSpec.ofChange latticeClosesSpec)

/-- ITS FALSE NEIGHBOUR: 'it returns false'. Refute it at one input. -/
def latticeClosesWrong : ChangeSpec := { name := "latticeCloses", fn := fun _ => fun
  | [d1, d2, d3] => { results := [.lit (.bool false)], args := [d1, d2, d3] }
  | _ => none }
def LatticeClosesWrongFalsely : Prop := latticeClosesRow.holds Tryd.pinned (OpenSpec.ofChange latticeClosesWrong)

/-- 'watershedkeep.FixedTarski': WHATEVER THE INPUT: true; the input reads as it did. -/
def fixedTarskiSpec : ChangeSpec := { name := "fixedTarski", fn := fun _ => fun
  | [d1, d2, d3] => { results := [.lit (.bool true)], args := [d1, d2, d3] }
  | _ => none }
def fixedTarskiRow : OpenClaim := { program := "ytdbjfdjpmoackaadoor", sum := "c09808ffcbd556af68c2ea4e38d1a0f012edd95a021f7c17c8157cbae5fd4e52", func := "watershed/watershedkeep.FixedTarski", spec := "fixedTarski", unfollowed := true, recurses := true, named := ["math/bits.deBruijn64tab"], apart := false, laid := [("math/bits.deBruijn64tab", laid_math_bits_deBruijn64tab)] }
def FixedTarskiSaid : Prop := fixedTarskiRow.holds Tryd.pinned (OpenSpec.ofChange fixedTarskiSpec)

/-- ITS FALSE NEIGHBOUR: 'it returns false'. Refute it at one input. -/
def fixedTarskiWrong : ChangeSpec := { name := "fixedTarski", fn := fun _ => fun
  | [d1, d2, d3] => { results := [.lit (.bool false)], args := [d1, d2, d3] }
  | _ => none }
def FixedTarskiWrongFalsely : Prop := fixedTarskiRow.holds Tryd.pinned (OpenSpec.ofChange fixedTarskiWrong)

/-- 'watershedkeep.FixedRolls': WHATEVER THE INPUT: true; the input reads as it did. -/
def fixedRollsSpec : ChangeSpec := { name := "fixedRolls", fn := fun _ => fun
  | [d1, d2, d3] => { results := [.lit (.bool true)], args := [d1, d2, d3] }
  | _ => none }
def fixedRollsRow : OpenClaim := { program := "ytdbjfdjpmoackaadoor", sum := "c09808ffcbd556af68c2ea4e38d1a0f012edd95a021f7c17c8157cbae5fd4e52", func := "watershed/watershedkeep.FixedRolls", spec := "fixedRolls", unfollowed := true, recurses := true, named := ["math/bits.deBruijn64tab"], apart := false, laid := [("math/bits.deBruijn64tab", laid_math_bits_deBruijn64tab)] }
def FixedRollsSaid : Prop := fixedRollsRow.holds Tryd.pinned (OpenSpec.ofChange fixedRollsSpec)

/-- ITS FALSE NEIGHBOUR: 'it returns false'. Refute it at one input. -/
def fixedRollsWrong : ChangeSpec := { name := "fixedRolls", fn := fun _ => fun
  | [d1, d2, d3] => { results := [.lit (.bool false)], args := [d1, d2, d3] }
  | _ => none }
def FixedRollsWrongFalsely : Prop := fixedRollsRow.holds Tryd.pinned (OpenSpec.ofChange fixedRollsWrong)

/-- 'watershedkeep.FixedGrows': WHATEVER THE INPUT: true; the input reads as it did. -/
def fixedGrowsSpec : ChangeSpec := { name := "fixedGrows", fn := fun _ => fun
  | [d1, d2, d3] => { results := [.lit (.bool true)], args := [d1, d2, d3] }
  | _ => none }
def fixedGrowsRow : OpenClaim := { program := "ytdbjfdjpmoackaadoor", sum := "c09808ffcbd556af68c2ea4e38d1a0f012edd95a021f7c17c8157cbae5fd4e52", func := "watershed/watershedkeep.FixedGrows", spec := "fixedGrows", unfollowed := true, recurses := true, named := ["math/bits.deBruijn64tab"], apart := false, laid := [("math/bits.deBruijn64tab", laid_math_bits_deBruijn64tab)] }
def FixedGrowsSaid : Prop := fixedGrowsRow.holds Tryd.pinned (OpenSpec.ofChange fixedGrowsSpec)

/-- ITS FALSE NEIGHBOUR: 'it returns false'. Refute it at one input. -/
def fixedGrowsWrong : ChangeSpec := { name := "fixedGrows", fn := fun _ => fun
  | [d1, d2, d3] => { results := [.lit (.bool false)], args := [d1, d2, d3] }
  | _ => none }
def FixedGrowsWrongFalsely : Prop := fixedGrowsRow.holds Tryd.pinned (OpenSpec.ofChange fixedGrowsWrong)

/-- 'watershedkeep.FixedDual': WHATEVER THE INPUT: true; the input reads as it did. -/
def fixedDualSpec : ChangeSpec := { name := "fixedDual", fn := fun _ => fun
  | [d1, d2] => { results := [.lit (.bool true)], args := [d1, d2] }
  | _ => none }
def fixedDualRow : OpenClaim := { program := "ytdbjfdjpmoackaadoor", sum := "c09808ffcbd556af68c2ea4e38d1a0f012edd95a021f7c17c8157cbae5fd4e52", func := "watershed/watershedkeep.FixedDual", spec := "fixedDual", unfollowed := true, recurses := true, named := ["math/bits.deBruijn64tab"], apart := false, laid := [("math/bits.deBruijn64tab", laid_math_bits_deBruijn64tab)] }
def FixedDualSaid : Prop := fixedDualRow.holds Tryd.pinned (OpenSpec.ofChange fixedDualSpec)

/-- ITS FALSE NEIGHBOUR: 'it returns false'. Refute it at one input. -/
def fixedDualWrong : ChangeSpec := { name := "fixedDual", fn := fun _ => fun
  | [d1, d2] => { results := [.lit (.bool false)], args := [d1, d2] }
  | _ => none }
def FixedDualWrongFalsely : Prop := fixedDualRow.holds Tryd.pinned (OpenSpec.ofChange fixedDualWrong)

/-- 'watershedkeep.FixedGalois': WHATEVER THE INPUT: true; the input reads as it did. -/
def fixedGaloisSpec : ChangeSpec := { name := "fixedGalois", fn := fun _ => fun
  | [d1, d2, d3, d4, d5, d6] => { results := [.lit (.bool true)], args := [d1, d2, d3, d4, d5, d6] }
  | _ => none }
def fixedGaloisRow : OpenClaim := { program := "ytdbjfdjpmoackaadoor", sum := "c09808ffcbd556af68c2ea4e38d1a0f012edd95a021f7c17c8157cbae5fd4e52", func := "watershed/watershedkeep.FixedGalois", spec := "fixedGalois", unfollowed := true, recurses := true, named := ["math/bits.deBruijn64tab"], apart := false, laid := [("math/bits.deBruijn64tab", laid_math_bits_deBruijn64tab)] }
def FixedGaloisSaid : Prop := fixedGaloisRow.holds Tryd.pinned (OpenSpec.ofChange fixedGaloisSpec)

/-- ITS FALSE NEIGHBOUR: 'it returns false'. Refute it at one input. -/
def fixedGaloisWrong : ChangeSpec := { name := "fixedGalois", fn := fun _ => fun
  | [d1, d2, d3, d4, d5, d6] => { results := [.lit (.bool false)], args := [d1, d2, d3, d4, d5, d6] }
  | _ => none }
def FixedGaloisWrongFalsely : Prop := fixedGaloisRow.holds Tryd.pinned (OpenSpec.ofChange fixedGaloisWrong)

/- THE SECOND FORM. 'bulk': how many values and letters a reading holds, each counted each time it is reached (what is shared counts as often as it is met; a slice's spare places count too). A statement '..UptoSaid' is the law's where the arguments, and the package variables that the reading takes, are together of bulk at most 1048576: NARROWER than '..Said'. Prove '..Said' where nothing that the law and all that it calls make is longer than what came in: it says more and counts as full. Else prove '..UptoSaid'. A law counts once. -/
mutual
def uptoBulk {H : Type} : DataW H → Nat
  | .lit (.string bytes) => bytes.length + 1
  | .lit _ => 1
  | .nil => 1
  | .ptr d => uptoBulk d + 1
  | .slice elems spare => uptoBulkAll elems + uptoBulkAll spare + 1
  | .agg parts => uptoBulkAll parts + 1
  | .iface _ d => uptoBulk d + 1
  | .map entries => uptoBulkEntries entries + 1
  | .held _ => 1
def uptoBulkAll {H : Type} : List (DataW H) → Nat
  | [] => 0
  | d :: r => uptoBulk d + uptoBulkAll r
def uptoBulkEntries {H : Type} : List (Lit × DataW H) → Nat
  | [] => 0
  | x :: r => uptoBulkEntry x + uptoBulkEntries r
def uptoBulkEntry {H : Type} : Lit × DataW H → Nat
  | (.string bytes, d) => bytes.length + uptoBulk d + 1
  | (_, d) => uptoBulk d + 1
 end
def uptoSmall : (H : Type) → List (DataW H) → Bool := fun _ ds => decide (uptoBulkAll ds ≤ 1048576)
def OpenSpec.upto (s : _root_.Go.ChangeSpec) : _root_.Go.OpenSpec := { _root_.Go.OpenSpec.ofChange s with cond := some uptoSmall }

/-- 'watershedkeep.LatticeDual', WHERE WHAT IT READS IS OF BULK AT MOST 1048576: true; the input reads as it did. -/
def latticeDualUptoRow : OpenClaim := { program := "ytdbjfdjpmoackaadoor", sum := "c09808ffcbd556af68c2ea4e38d1a0f012edd95a021f7c17c8157cbae5fd4e52", func := "watershed/watershedkeep.LatticeDual", spec := "latticeDual", unfollowed := true, recurses := true, named := ["math/bits.deBruijn64tab"], apart := false, laid := [("math/bits.deBruijn64tab", laid_math_bits_deBruijn64tab)], narrowed := true }
def LatticeDualUptoSaid : Prop := latticeDualUptoRow.holds Tryd.pinned (OpenSpec.upto latticeDualSpec)

/-- 'watershedkeep.LatticeDistributes', WHERE WHAT IT READS IS OF BULK AT MOST 1048576: true; the input reads as it did. -/
def latticeDistributesUptoRow : OpenClaim := { program := "ytdbjfdjpmoackaadoor", sum := "c09808ffcbd556af68c2ea4e38d1a0f012edd95a021f7c17c8157cbae5fd4e52", func := "watershed/watershedkeep.LatticeDistributes", spec := "latticeDistributes", unfollowed := true, recurses := true, named := ["math/bits.deBruijn64tab"], apart := false, laid := [("math/bits.deBruijn64tab", laid_math_bits_deBruijn64tab)], narrowed := true }
def LatticeDistributesUptoSaid : Prop := latticeDistributesUptoRow.holds Tryd.pinned (OpenSpec.upto latticeDistributesSpec)

/-- 'watershedkeep.LatticeMedian', WHERE WHAT IT READS IS OF BULK AT MOST 1048576: true; the input reads as it did. -/
def latticeMedianUptoRow : OpenClaim := { program := "ytdbjfdjpmoackaadoor", sum := "c09808ffcbd556af68c2ea4e38d1a0f012edd95a021f7c17c8157cbae5fd4e52", func := "watershed/watershedkeep.LatticeMedian", spec := "latticeMedian", unfollowed := true, recurses := true, named := ["math/bits.deBruijn64tab"], apart := false, laid := [("math/bits.deBruijn64tab", laid_math_bits_deBruijn64tab)], narrowed := true }
def LatticeMedianUptoSaid : Prop := latticeMedianUptoRow.holds Tryd.pinned (OpenSpec.upto latticeMedianSpec)

/-- 'watershedkeep.LatticeDedekind', WHERE WHAT IT READS IS OF BULK AT MOST 1048576: true; the input reads as it did. -/
def latticeDedekindUptoRow : OpenClaim := { program := "ytdbjfdjpmoackaadoor", sum := "c09808ffcbd556af68c2ea4e38d1a0f012edd95a021f7c17c8157cbae5fd4e52", func := "watershed/watershedkeep.LatticeDedekind", spec := "latticeDedekind", unfollowed := true, recurses := true, named := ["math/bits.deBruijn64tab"], apart := false, laid := [("math/bits.deBruijn64tab", laid_math_bits_deBruijn64tab)], narrowed := true }
def LatticeDedekindUptoSaid : Prop := latticeDedekindUptoRow.holds Tryd.pinned (OpenSpec.upto latticeDedekindSpec)

/-- 'watershedkeep.LatticeCancels', WHERE WHAT IT READS IS OF BULK AT MOST 1048576: true; the input reads as it did. -/
def latticeCancelsUptoRow : OpenClaim := { program := "ytdbjfdjpmoackaadoor", sum := "c09808ffcbd556af68c2ea4e38d1a0f012edd95a021f7c17c8157cbae5fd4e52", func := "watershed/watershedkeep.LatticeCancels", spec := "latticeCancels", unfollowed := true, recurses := true, named := ["math/bits.deBruijn64tab"], apart := false, laid := [("math/bits.deBruijn64tab", laid_math_bits_deBruijn64tab)], narrowed := true }
def LatticeCancelsUptoSaid : Prop := latticeCancelsUptoRow.holds Tryd.pinned (OpenSpec.upto latticeCancelsSpec)

/-- 'watershedkeep.LatticeGenerated', WHERE WHAT IT READS IS OF BULK AT MOST 1048576: true; the input reads as it did. -/
def latticeGeneratedUptoRow : OpenClaim := { program := "ytdbjfdjpmoackaadoor", sum := "c09808ffcbd556af68c2ea4e38d1a0f012edd95a021f7c17c8157cbae5fd4e52", func := "watershed/watershedkeep.LatticeGenerated", spec := "latticeGenerated", unfollowed := true, recurses := true, named := ["math/bits.deBruijn64tab"], apart := false, laid := [("math/bits.deBruijn64tab", laid_math_bits_deBruijn64tab)], narrowed := true }
def LatticeGeneratedUptoSaid : Prop := latticeGeneratedUptoRow.holds Tryd.pinned (OpenSpec.upto latticeGeneratedSpec)

/-- 'watershedkeep.LatticeCloses', WHERE WHAT IT READS IS OF BULK AT MOST 1048576: true; the input reads as it did. -/
def latticeClosesUptoRow : OpenClaim := { program := "ytdbjfdjpmoackaadoor", sum := "c09808ffcbd556af68c2ea4e38d1a0f012edd95a021f7c17c8157cbae5fd4e52", func := "watershed/watershedkeep.LatticeCloses", spec := "latticeCloses", unfollowed := true, recurses := true, named := ["math/bits.deBruijn64tab"], apart := false, laid := [("math/bits.deBruijn64tab", laid_math_bits_deBruijn64tab)], narrowed := true }
def LatticeClosesUptoSaid : Prop := latticeClosesUptoRow.holds Tryd.pinned (OpenSpec.upto latticeClosesSpec)

/-- 'watershedkeep.FixedTarski', WHERE WHAT IT READS IS OF BULK AT MOST 1048576: true; the input reads as it did. -/
def fixedTarskiUptoRow : OpenClaim := { program := "ytdbjfdjpmoackaadoor", sum := "c09808ffcbd556af68c2ea4e38d1a0f012edd95a021f7c17c8157cbae5fd4e52", func := "watershed/watershedkeep.FixedTarski", spec := "fixedTarski", unfollowed := true, recurses := true, named := ["math/bits.deBruijn64tab"], apart := false, laid := [("math/bits.deBruijn64tab", laid_math_bits_deBruijn64tab)], narrowed := true }
def FixedTarskiUptoSaid : Prop := fixedTarskiUptoRow.holds Tryd.pinned (OpenSpec.upto fixedTarskiSpec)

/-- 'watershedkeep.FixedRolls', WHERE WHAT IT READS IS OF BULK AT MOST 1048576: true; the input reads as it did. -/
def fixedRollsUptoRow : OpenClaim := { program := "ytdbjfdjpmoackaadoor", sum := "c09808ffcbd556af68c2ea4e38d1a0f012edd95a021f7c17c8157cbae5fd4e52", func := "watershed/watershedkeep.FixedRolls", spec := "fixedRolls", unfollowed := true, recurses := true, named := ["math/bits.deBruijn64tab"], apart := false, laid := [("math/bits.deBruijn64tab", laid_math_bits_deBruijn64tab)], narrowed := true }
def FixedRollsUptoSaid : Prop := fixedRollsUptoRow.holds Tryd.pinned (OpenSpec.upto fixedRollsSpec)

/-- 'watershedkeep.FixedGrows', WHERE WHAT IT READS IS OF BULK AT MOST 1048576: true; the input reads as it did. -/
def fixedGrowsUptoRow : OpenClaim := { program := "ytdbjfdjpmoackaadoor", sum := "c09808ffcbd556af68c2ea4e38d1a0f012edd95a021f7c17c8157cbae5fd4e52", func := "watershed/watershedkeep.FixedGrows", spec := "fixedGrows", unfollowed := true, recurses := true, named := ["math/bits.deBruijn64tab"], apart := false, laid := [("math/bits.deBruijn64tab", laid_math_bits_deBruijn64tab)], narrowed := true }
def FixedGrowsUptoSaid : Prop := fixedGrowsUptoRow.holds Tryd.pinned (OpenSpec.upto fixedGrowsSpec)

/-- 'watershedkeep.FixedDual', WHERE WHAT IT READS IS OF BULK AT MOST 1048576: true; the input reads as it did. -/
def fixedDualUptoRow : OpenClaim := { program := "ytdbjfdjpmoackaadoor", sum := "c09808ffcbd556af68c2ea4e38d1a0f012edd95a021f7c17c8157cbae5fd4e52", func := "watershed/watershedkeep.FixedDual", spec := "fixedDual", unfollowed := true, recurses := true, named := ["math/bits.deBruijn64tab"], apart := false, laid := [("math/bits.deBruijn64tab", laid_math_bits_deBruijn64tab)], narrowed := true }
def FixedDualUptoSaid : Prop := fixedDualUptoRow.holds Tryd.pinned (OpenSpec.upto fixedDualSpec)

/-- 'watershedkeep.FixedGalois', WHERE WHAT IT READS IS OF BULK AT MOST 1048576: true; the input reads as it did. -/
def fixedGaloisUptoRow : OpenClaim := { program := "ytdbjfdjpmoackaadoor", sum := "c09808ffcbd556af68c2ea4e38d1a0f012edd95a021f7c17c8157cbae5fd4e52", func := "watershed/watershedkeep.FixedGalois", spec := "fixedGalois", unfollowed := true, recurses := true, named := ["math/bits.deBruijn64tab"], apart := false, laid := [("math/bits.deBruijn64tab", laid_math_bits_deBruijn64tab)], narrowed := true }
def FixedGaloisUptoSaid : Prop := fixedGaloisUptoRow.holds Tryd.pinned (OpenSpec.upto fixedGaloisSpec)

end Rows
end Go.Proofs.YtdbjfdjpmoackaaDoor
