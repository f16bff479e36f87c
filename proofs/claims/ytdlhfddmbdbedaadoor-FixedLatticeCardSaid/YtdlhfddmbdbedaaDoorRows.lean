/-
  NARROWER THAN 'FOR EVERY INPUT', by the rows' own cells (each row's printed sentence says how): FixedLattice: laid · FixedKleene: laid · MobiusAlgebra: laid · MobiusTurns: laid · MobiusRota: laid · MobiusDual: laid · MobiusHall: laid · MobiusProducts: laid · MobiusWeisner: laid · MobiusAtoms: laid · DownsSplits: laid · DownsTurned: laid.
  DERIVED. THE GIVEN ROWS OF THIS SEAT. 12 by the template 'for every input the law returns true; each argument reads behind the call as it read before'; 0 by the template 'total and deterministic' (their statements: YtdlhfddmbdbedaaDoorTotals.lean).
  GIVEN WITH THE SEED: the statements are not yours to turn. If you find one false, say at which input.
  Laid BY PROGRAM, IN A SANDBOX (cutbox-rows.mjs): the forced cells as the released guide's own fill.sh prints them over the translation 350e192a52309d5d… (all of the seat's roots in one cut). By AI agents, Wed Nov 11 2026. No macro, syntax, notation, axiom, sorry.
-/
import Derived.Test.YtdlhfddmbdbedaaDoorChecked
import GoSem.Claim
import GoSem.ClaimJoined
import GoSem.ClaimMapViews
import Derived.JoinedTies
import Derived.KernelRfl
namespace Go.Proofs.YtdlhfddmbdbedaaDoor
/- THE CELL 'sum', in the pinned program and in every row, IS THE sha256 OF THE DUMP (.gsa) THAT YtdlhfddmbdbedaaDoorProg.lean LOADS. Nothing in Lean hashes anything: it is a label: what it is worth is what the hold of that sum in a sandbox is worth. -/
noncomputable def Tryd.pinned : Pinned := { name := "ytdlhfddmbdbedaadoor", sum := "350e192a52309d5dd76c5a61bb966518f7233685be8578acb4c1585f4d700aec", checked := Tryd.checked }
namespace Rows
def none {H : Type} : Left H := { results := [], args := [] }

/- WHAT THE LISTED PACKAGE-LEVEL VARIABLES READ AS WHEN THE CALL BEGINS. Each datum BY PROGRAM (the guide's laid-datum.mjs) off the statement by which the dump's own 'gosem.cut.vars' lays the variable. In a bare row this is a premise. The card (YtdlhfddmbdbedaaDoorCards.lean) ties it to the program's text. -/
def laid_math_bits_deBruijn64tab {H : Type} : DataW H := .agg [.lit (.int .u8 0), .lit (.int .u8 1), .lit (.int .u8 56), .lit (.int .u8 2), .lit (.int .u8 57), .lit (.int .u8 49), .lit (.int .u8 28), .lit (.int .u8 3), .lit (.int .u8 61), .lit (.int .u8 58), .lit (.int .u8 42), .lit (.int .u8 50), .lit (.int .u8 38), .lit (.int .u8 29), .lit (.int .u8 17), .lit (.int .u8 4), .lit (.int .u8 62), .lit (.int .u8 47), .lit (.int .u8 59), .lit (.int .u8 36), .lit (.int .u8 45), .lit (.int .u8 43), .lit (.int .u8 51), .lit (.int .u8 22), .lit (.int .u8 53), .lit (.int .u8 39), .lit (.int .u8 33), .lit (.int .u8 30), .lit (.int .u8 24), .lit (.int .u8 18), .lit (.int .u8 12), .lit (.int .u8 5), .lit (.int .u8 63), .lit (.int .u8 55), .lit (.int .u8 48), .lit (.int .u8 27), .lit (.int .u8 60), .lit (.int .u8 41), .lit (.int .u8 37), .lit (.int .u8 16), .lit (.int .u8 46), .lit (.int .u8 35), .lit (.int .u8 44), .lit (.int .u8 21), .lit (.int .u8 52), .lit (.int .u8 32), .lit (.int .u8 23), .lit (.int .u8 11), .lit (.int .u8 54), .lit (.int .u8 26), .lit (.int .u8 40), .lit (.int .u8 15), .lit (.int .u8 34), .lit (.int .u8 20), .lit (.int .u8 31), .lit (.int .u8 10), .lit (.int .u8 25), .lit (.int .u8 14), .lit (.int .u8 19), .lit (.int .u8 9), .lit (.int .u8 13), .lit (.int .u8 8), .lit (.int .u8 7), .lit (.int .u8 6)]

/-- 'watershedkeep.FixedLattice': WHATEVER THE INPUT: true; the input reads as it did. -/
def fixedLatticeSpec : ChangeSpec := { name := "fixedLattice", fn := fun _ => fun
  | [d1, d2] => { results := [.lit (.bool true)], args := [d1, d2] }
  | _ => none }
def fixedLatticeRow : OpenClaim := { program := "ytdlhfddmbdbedaadoor", sum := "350e192a52309d5dd76c5a61bb966518f7233685be8578acb4c1585f4d700aec", func := "watershed/watershedkeep.FixedLattice", spec := "fixedLattice", unfollowed := true, recurses := true, named := ["math/bits.deBruijn64tab"], apart := false, laid := [("math/bits.deBruijn64tab", laid_math_bits_deBruijn64tab)] }
def FixedLatticeSaid : Prop := fixedLatticeRow.holds Tryd.pinned (OpenSpec.ofChange fixedLatticeSpec)

/-- ITS FALSE NEIGHBOUR: 'it returns false'. Refute it at one input. -/
def fixedLatticeWrong : ChangeSpec := { name := "fixedLattice", fn := fun _ => fun
  | [d1, d2] => { results := [.lit (.bool false)], args := [d1, d2] }
  | _ => none }
def FixedLatticeWrongFalsely : Prop := fixedLatticeRow.holds Tryd.pinned (OpenSpec.ofChange fixedLatticeWrong)

/-- 'watershedkeep.FixedKleene': WHATEVER THE INPUT: true; the input reads as it did. -/
def fixedKleeneSpec : ChangeSpec := { name := "fixedKleene", fn := fun _ => fun
  | [d1, d2] => { results := [.lit (.bool true)], args := [d1, d2] }
  | _ => none }
def fixedKleeneRow : OpenClaim := { program := "ytdlhfddmbdbedaadoor", sum := "350e192a52309d5dd76c5a61bb966518f7233685be8578acb4c1585f4d700aec", func := "watershed/watershedkeep.FixedKleene", spec := "fixedKleene", unfollowed := true, recurses := true, named := ["math/bits.deBruijn64tab"], apart := false, laid := [("math/bits.deBruijn64tab", laid_math_bits_deBruijn64tab)] }
def FixedKleeneSaid : Prop := fixedKleeneRow.holds Tryd.pinned (OpenSpec.ofChange fixedKleeneSpec)

/-- ITS FALSE NEIGHBOUR: 'it returns false'. Refute it at one input. -/
def fixedKleeneWrong : ChangeSpec := { name := "fixedKleene", fn := fun _ => fun
  | [d1, d2] => { results := [.lit (.bool false)], args := [d1, d2] }
  | _ => none }
def FixedKleeneWrongFalsely : Prop := fixedKleeneRow.holds Tryd.pinned (OpenSpec.ofChange fixedKleeneWrong)

/-- 'watershedkeep.MobiusAlgebra': WHATEVER THE INPUT: true; the input reads as it did. -/
def mobiusAlgebraSpec : ChangeSpec := { name := "mobiusAlgebra", fn := fun _ => fun
  | [d1, d2, d3, d4] => { results := [.lit (.bool true)], args := [d1, d2, d3, d4] }
  | _ => none }
def mobiusAlgebraRow : OpenClaim := { program := "ytdlhfddmbdbedaadoor", sum := "350e192a52309d5dd76c5a61bb966518f7233685be8578acb4c1585f4d700aec", func := "watershed/watershedkeep.MobiusAlgebra", spec := "mobiusAlgebra", unfollowed := true, recurses := true, named := ["math/bits.deBruijn64tab"], apart := false, laid := [("math/bits.deBruijn64tab", laid_math_bits_deBruijn64tab)] }
def MobiusAlgebraSaid : Prop := mobiusAlgebraRow.holds Tryd.pinned (OpenSpec.ofChange mobiusAlgebraSpec)

/-- ITS FALSE NEIGHBOUR: 'it returns false'. Refute it at one input. -/
def mobiusAlgebraWrong : ChangeSpec := { name := "mobiusAlgebra", fn := fun _ => fun
  | [d1, d2, d3, d4] => { results := [.lit (.bool false)], args := [d1, d2, d3, d4] }
  | _ => none }
def MobiusAlgebraWrongFalsely : Prop := mobiusAlgebraRow.holds Tryd.pinned (OpenSpec.ofChange mobiusAlgebraWrong)

/-- 'watershedkeep.MobiusTurns': WHATEVER THE INPUT: true; the input reads as it did. -/
def mobiusTurnsSpec : ChangeSpec := { name := "mobiusTurns", fn := fun _ => fun
  | [d1, d2] => { results := [.lit (.bool true)], args := [d1, d2] }
  | _ => none }
def mobiusTurnsRow : OpenClaim := { program := "ytdlhfddmbdbedaadoor", sum := "350e192a52309d5dd76c5a61bb966518f7233685be8578acb4c1585f4d700aec", func := "watershed/watershedkeep.MobiusTurns", spec := "mobiusTurns", unfollowed := true, recurses := true, named := ["math/bits.deBruijn64tab"], apart := false, laid := [("math/bits.deBruijn64tab", laid_math_bits_deBruijn64tab)] }
def MobiusTurnsSaid : Prop := mobiusTurnsRow.holds Tryd.pinned (OpenSpec.ofChange mobiusTurnsSpec)

/-- ITS FALSE NEIGHBOUR: 'it returns false'. Refute it at one input. -/
def mobiusTurnsWrong : ChangeSpec := { name := "mobiusTurns", fn := fun _ => fun
  | [d1, d2] => { results := [.lit (.bool false)], args := [d1, d2] }
  | _ => none }
def MobiusTurnsWrongFalsely : Prop := mobiusTurnsRow.holds Tryd.pinned (OpenSpec.ofChange mobiusTurnsWrong)

/-- 'watershedkeep.MobiusRota': WHATEVER THE INPUT: true; the input reads as it did. -/
def mobiusRotaSpec : ChangeSpec := { name := "mobiusRota", fn := fun _ => fun
  | [d1, d2] => { results := [.lit (.bool true)], args := [d1, d2] }
  | _ => none }
def mobiusRotaRow : OpenClaim := { program := "ytdlhfddmbdbedaadoor", sum := "350e192a52309d5dd76c5a61bb966518f7233685be8578acb4c1585f4d700aec", func := "watershed/watershedkeep.MobiusRota", spec := "mobiusRota", unfollowed := true, recurses := true, named := ["math/bits.deBruijn64tab"], apart := false, laid := [("math/bits.deBruijn64tab", laid_math_bits_deBruijn64tab)] }
def MobiusRotaSaid : Prop := mobiusRotaRow.holds Tryd.pinned (OpenSpec.ofChange mobiusRotaSpec)

/-- ITS FALSE NEIGHBOUR: 'it returns false'. Refute it at one input. -/
def mobiusRotaWrong : ChangeSpec := { name := "mobiusRota", fn := fun _ => fun
  | [d1, d2] => { results := [.lit (.bool false)], args := [d1, d2] }
  | _ => none }
def MobiusRotaWrongFalsely : Prop := mobiusRotaRow.holds Tryd.pinned (OpenSpec.ofChange mobiusRotaWrong)

/-- 'watershedkeep.MobiusDual': WHATEVER THE INPUT: true; the input reads as it did. -/
def mobiusDualSpec : ChangeSpec := { name := "mobiusDual", fn := fun _ => fun
  | [d] => { results := [.lit (.bool true)], args := [d] }
  | _ => none }
def mobiusDualRow : OpenClaim := { program := "ytdlhfddmbdbedaadoor", sum := "350e192a52309d5dd76c5a61bb966518f7233685be8578acb4c1585f4d700aec", func := "watershed/watershedkeep.MobiusDual", spec := "mobiusDual", unfollowed := true, recurses := true, named := ["math/bits.deBruijn64tab"], apart := false, laid := [("math/bits.deBruijn64tab", laid_math_bits_deBruijn64tab)] }
def MobiusDualSaid : Prop := mobiusDualRow.holds Tryd.pinned (OpenSpec.ofChange mobiusDualSpec)

/-- ITS FALSE NEIGHBOUR: 'it returns false'. Refute it at one input. -/
def mobiusDualWrong : ChangeSpec := { name := "mobiusDual", fn := fun _ => fun
  | [d] => { results := [.lit (.bool false)], args := [d] }
  | _ => none }
def MobiusDualWrongFalsely : Prop := mobiusDualRow.holds Tryd.pinned (OpenSpec.ofChange mobiusDualWrong)

/-- 'watershedkeep.MobiusHall': WHATEVER THE INPUT: true; the input reads as it did. -/
def mobiusHallSpec : ChangeSpec := { name := "mobiusHall", fn := fun _ => fun
  | [d1, d2, d3] => { results := [.lit (.bool true)], args := [d1, d2, d3] }
  | _ => none }
def mobiusHallRow : OpenClaim := { program := "ytdlhfddmbdbedaadoor", sum := "350e192a52309d5dd76c5a61bb966518f7233685be8578acb4c1585f4d700aec", func := "watershed/watershedkeep.MobiusHall", spec := "mobiusHall", unfollowed := true, recurses := true, named := ["math/bits.deBruijn64tab"], apart := false, laid := [("math/bits.deBruijn64tab", laid_math_bits_deBruijn64tab)] }
def MobiusHallSaid : Prop := mobiusHallRow.holds Tryd.pinned (OpenSpec.ofChange mobiusHallSpec)

/-- ITS FALSE NEIGHBOUR: 'it returns false'. Refute it at one input. -/
def mobiusHallWrong : ChangeSpec := { name := "mobiusHall", fn := fun _ => fun
  | [d1, d2, d3] => { results := [.lit (.bool false)], args := [d1, d2, d3] }
  | _ => none }
def MobiusHallWrongFalsely : Prop := mobiusHallRow.holds Tryd.pinned (OpenSpec.ofChange mobiusHallWrong)

/-- 'watershedkeep.MobiusProducts': WHATEVER THE INPUT: true; the input reads as it did. -/
def mobiusProductsSpec : ChangeSpec := { name := "mobiusProducts", fn := fun _ => fun
  | [d1, d2] => { results := [.lit (.bool true)], args := [d1, d2] }
  | _ => none }
def mobiusProductsRow : OpenClaim := { program := "ytdlhfddmbdbedaadoor", sum := "350e192a52309d5dd76c5a61bb966518f7233685be8578acb4c1585f4d700aec", func := "watershed/watershedkeep.MobiusProducts", spec := "mobiusProducts", unfollowed := true, recurses := true, named := ["math/bits.deBruijn64tab"], apart := false, laid := [("math/bits.deBruijn64tab", laid_math_bits_deBruijn64tab)] }
def MobiusProductsSaid : Prop := mobiusProductsRow.holds Tryd.pinned (OpenSpec.ofChange mobiusProductsSpec)

/-- ITS FALSE NEIGHBOUR: 'it returns false'. Refute it at one input. -/
def mobiusProductsWrong : ChangeSpec := { name := "mobiusProducts", fn := fun _ => fun
  | [d1, d2] => { results := [.lit (.bool false)], args := [d1, d2] }
  | _ => none }
def MobiusProductsWrongFalsely : Prop := mobiusProductsRow.holds Tryd.pinned (OpenSpec.ofChange mobiusProductsWrong)

/-- 'watershedkeep.MobiusWeisner': WHATEVER THE INPUT: true; the input reads as it did. -/
def mobiusWeisnerSpec : ChangeSpec := { name := "mobiusWeisner", fn := fun _ => fun
  | [d1, d2] => { results := [.lit (.bool true)], args := [d1, d2] }
  | _ => none }
def mobiusWeisnerRow : OpenClaim := { program := "ytdlhfddmbdbedaadoor", sum := "350e192a52309d5dd76c5a61bb966518f7233685be8578acb4c1585f4d700aec", func := "watershed/watershedkeep.MobiusWeisner", spec := "mobiusWeisner", unfollowed := true, recurses := true, named := ["math/bits.deBruijn64tab"], apart := false, laid := [("math/bits.deBruijn64tab", laid_math_bits_deBruijn64tab)] }
def MobiusWeisnerSaid : Prop := mobiusWeisnerRow.holds Tryd.pinned (OpenSpec.ofChange mobiusWeisnerSpec)

/-- ITS FALSE NEIGHBOUR: 'it returns false'. Refute it at one input. -/
def mobiusWeisnerWrong : ChangeSpec := { name := "mobiusWeisner", fn := fun _ => fun
  | [d1, d2] => { results := [.lit (.bool false)], args := [d1, d2] }
  | _ => none }
def MobiusWeisnerWrongFalsely : Prop := mobiusWeisnerRow.holds Tryd.pinned (OpenSpec.ofChange mobiusWeisnerWrong)

/-- 'watershedkeep.MobiusAtoms': WHATEVER THE INPUT: true; the input reads as it did. -/
def mobiusAtomsSpec : ChangeSpec := { name := "mobiusAtoms", fn := fun _ => fun
  | [d] => { results := [.lit (.bool true)], args := [d] }
  | _ => none }
def mobiusAtomsRow : OpenClaim := { program := "ytdlhfddmbdbedaadoor", sum := "350e192a52309d5dd76c5a61bb966518f7233685be8578acb4c1585f4d700aec", func := "watershed/watershedkeep.MobiusAtoms", spec := "mobiusAtoms", unfollowed := true, recurses := true, named := ["math/bits.deBruijn64tab"], apart := false, laid := [("math/bits.deBruijn64tab", laid_math_bits_deBruijn64tab)] }
def MobiusAtomsSaid : Prop := mobiusAtomsRow.holds Tryd.pinned (OpenSpec.ofChange mobiusAtomsSpec)

/-- ITS FALSE NEIGHBOUR: 'it returns false'. Refute it at one input. -/
def mobiusAtomsWrong : ChangeSpec := { name := "mobiusAtoms", fn := fun _ => fun
  | [d] => { results := [.lit (.bool false)], args := [d] }
  | _ => none }
def MobiusAtomsWrongFalsely : Prop := mobiusAtomsRow.holds Tryd.pinned (OpenSpec.ofChange mobiusAtomsWrong)

/-- 'watershedkeep.DownsSplits': WHATEVER THE INPUT: true; the input reads as it did. -/
def downsSplitsSpec : ChangeSpec := { name := "downsSplits", fn := fun _ => fun
  | [d1, d2] => { results := [.lit (.bool true)], args := [d1, d2] }
  | _ => none }
def downsSplitsRow : OpenClaim := { program := "ytdlhfddmbdbedaadoor", sum := "350e192a52309d5dd76c5a61bb966518f7233685be8578acb4c1585f4d700aec", func := "watershed/watershedkeep.DownsSplits", spec := "downsSplits", unfollowed := true, recurses := true, named := ["math/bits.deBruijn64tab"], apart := false, laid := [("math/bits.deBruijn64tab", laid_math_bits_deBruijn64tab)] }
def DownsSplitsSaid : Prop := downsSplitsRow.holds Tryd.pinned (OpenSpec.ofChange downsSplitsSpec)

/-- ITS FALSE NEIGHBOUR: 'it returns false'. Refute it at one input. -/
def downsSplitsWrong : ChangeSpec := { name := "downsSplits", fn := fun _ => fun
  | [d1, d2] => { results := [.lit (.bool false)], args := [d1, d2] }
  | _ => none }
def DownsSplitsWrongFalsely : Prop := downsSplitsRow.holds Tryd.pinned (OpenSpec.ofChange downsSplitsWrong)

/-- 'watershedkeep.DownsTurned': WHATEVER THE INPUT: true; the input reads as it did. -/
def downsTurnedSpec : ChangeSpec := { name := "downsTurned", fn := fun _ => fun
  | [d] => { results := [.lit (.bool true)], args := [d] }
  | _ => none }
def downsTurnedRow : OpenClaim := { program := "ytdlhfddmbdbedaadoor", sum := "350e192a52309d5dd76c5a61bb966518f7233685be8578acb4c1585f4d700aec", func := "watershed/watershedkeep.DownsTurned", spec := "downsTurned", unfollowed := true, recurses := true, named := ["math/bits.deBruijn64tab"], apart := false, laid := [("math/bits.deBruijn64tab", laid_math_bits_deBruijn64tab)] }
def DownsTurnedSaid : Prop := downsTurnedRow.holds Tryd.pinned (OpenSpec.ofChange downsTurnedSpec)

/-- ITS FALSE NEIGHBOUR: 'it returns false'. Refute it at one input. -/
def downsTurnedWrong : ChangeSpec := { name := "downsTurned", fn := fun _ => fun
  | [d] => { results := [.lit (.bool false)], args := [d] }
  | _ => none }
def DownsTurnedWrongFalsely : Prop := downsTurnedRow.holds Tryd.pinned (OpenSpec.ofChange downsTurnedWrong)

/- THE SECOND FORM. 'bulk': how many values and letters a reading holds, each counted each time it is reached (what is shared counts as often as it is met; a slice's spare places count too). A statement '..UptoSaid' is the law's where the arguments, and the package variables that the reading takes, are together of bulk at most 1048576: NARROWER than '..Said'. Prove '..Said' where nothing that the law and all that it calls make is longer than what came in: it says more and counts as full. Else prove '..UptoSaid'. A law counts once. -/
mutual
def uptoBulk {H : Type} : DataW H → Nat
  | .lit (.string bytes) => bytes.length + 1
  | .lit _ => 1
  | .nil => 1
  | .ptr d => uptoBulk d + 1
  | .slice elems spare => uptoBulkAll elems + uptoBulkAll spare + 1
  | .agg parts => uptoBulkAll parts + 1
  | .iface _ d => uptoBulk d + 1
  | .map entries => uptoBulkEntries entries + 1
  | .held _ => 1
def uptoBulkAll {H : Type} : List (DataW H) → Nat
  | [] => 0
  | d :: r => uptoBulk d + uptoBulkAll r
def uptoBulkEntries {H : Type} : List (Lit × DataW H) → Nat
  | [] => 0
  | x :: r => uptoBulkEntry x + uptoBulkEntries r
def uptoBulkEntry {H : Type} : Lit × DataW H → Nat
  | (.string bytes, d) => bytes.length + uptoBulk d + 1
  | (_, d) => uptoBulk d + 1
 end
def uptoSmall : (H : Type) → List (DataW H) → Bool := fun _ ds => decide (uptoBulkAll ds ≤ 1048576)
def OpenSpec.upto (s : _root_.Go.ChangeSpec) : _root_.Go.OpenSpec := { _root_.Go.OpenSpec.ofChange s with cond := some uptoSmall }

/-- 'watershedkeep.FixedLattice', WHERE WHAT IT READS IS OF BULK AT MOST 1048576: true; the input reads as it did. -/
def fixedLatticeUptoRow : OpenClaim := { program := "ytdlhfddmbdbedaadoor", sum := "350e192a52309d5dd76c5a61bb966518f7233685be8578acb4c1585f4d700aec", func := "watershed/watershedkeep.FixedLattice", spec := "fixedLattice", unfollowed := true, recurses := true, named := ["math/bits.deBruijn64tab"], apart := false, laid := [("math/bits.deBruijn64tab", laid_math_bits_deBruijn64tab)], narrowed := true }
def FixedLatticeUptoSaid : Prop := fixedLatticeUptoRow.holds Tryd.pinned (OpenSpec.upto fixedLatticeSpec)

/-- 'watershedkeep.FixedKleene', WHERE WHAT IT READS IS OF BULK AT MOST 1048576: true; the input reads as it did. -/
def fixedKleeneUptoRow : OpenClaim := { program := "ytdlhfddmbdbedaadoor", sum := "350e192a52309d5dd76c5a61bb966518f7233685be8578acb4c1585f4d700aec", func := "watershed/watershedkeep.FixedKleene", spec := "fixedKleene", unfollowed := true, recurses := true, named := ["math/bits.deBruijn64tab"], apart := false, laid := [("math/bits.deBruijn64tab", laid_math_bits_deBruijn64tab)], narrowed := true }
def FixedKleeneUptoSaid : Prop := fixedKleeneUptoRow.holds Tryd.pinned (OpenSpec.upto fixedKleeneSpec)

/-- 'watershedkeep.MobiusAlgebra', WHERE WHAT IT READS IS OF BULK AT MOST 1048576: true; the input reads as it did. -/
def mobiusAlgebraUptoRow : OpenClaim := { program := "ytdlhfddmbdbedaadoor", sum := "350e192a52309d5dd76c5a61bb966518f7233685be8578acb4c1585f4d700aec", func := "watershed/watershedkeep.MobiusAlgebra", spec := "mobiusAlgebra", unfollowed := true, recurses := true, named := ["math/bits.deBruijn64tab"], apart := false, laid := [("math/bits.deBruijn64tab", laid_math_bits_deBruijn64tab)], narrowed := true }
def MobiusAlgebraUptoSaid : Prop := mobiusAlgebraUptoRow.holds Tryd.pinned (OpenSpec.upto mobiusAlgebraSpec)

/-- 'watershedkeep.MobiusTurns', WHERE WHAT IT READS IS OF BULK AT MOST 1048576: true; the input reads as it did. -/
def mobiusTurnsUptoRow : OpenClaim := { program := "ytdlhfddmbdbedaadoor", sum := "350e192a52309d5dd76c5a61bb966518f7233685be8578acb4c1585f4d700aec", func := "watershed/watershedkeep.MobiusTurns", spec := "mobiusTurns", unfollowed := true, recurses := true, named := ["math/bits.deBruijn64tab"], apart := false, laid := [("math/bits.deBruijn64tab", laid_math_bits_deBruijn64tab)], narrowed := true }
def MobiusTurnsUptoSaid : Prop := mobiusTurnsUptoRow.holds Tryd.pinned (OpenSpec.upto mobiusTurnsSpec)

/-- 'watershedkeep.MobiusRota', WHERE WHAT IT READS IS OF BULK AT MOST 1048576: true; the input reads as it did. -/
def mobiusRotaUptoRow : OpenClaim := { program := "ytdlhfddmbdbedaadoor", sum := "350e192a52309d5dd76c5a61bb966518f7233685be8578acb4c1585f4d700aec", func := "watershed/watershedkeep.MobiusRota", spec := "mobiusRota", unfollowed := true, recurses := true, named := ["math/bits.deBruijn64tab"], apart := false, laid := [("math/bits.deBruijn64tab", laid_math_bits_deBruijn64tab)], narrowed := true }
def MobiusRotaUptoSaid : Prop := mobiusRotaUptoRow.holds Tryd.pinned (OpenSpec.upto mobiusRotaSpec)

/-- 'watershedkeep.MobiusDual', WHERE WHAT IT READS IS OF BULK AT MOST 1048576: true; the input reads as it did. -/
def mobiusDualUptoRow : OpenClaim := { program := "ytdlhfddmbdbedaadoor", sum := "350e192a52309d5dd76c5a61bb966518f7233685be8578acb4c1585f4d700aec", func := "watershed/watershedkeep.MobiusDual", spec := "mobiusDual", unfollowed := true, recurses := true, named := ["math/bits.deBruijn64tab"], apart := false, laid := [("math/bits.deBruijn64tab", laid_math_bits_deBruijn64tab)], narrowed := true }
def MobiusDualUptoSaid : Prop := mobiusDualUptoRow.holds Tryd.pinned (OpenSpec.upto mobiusDualSpec)

/-- 'watershedkeep.MobiusHall', WHERE WHAT IT READS IS OF BULK AT MOST 1048576: true; the input reads as it did. -/
def mobiusHallUptoRow : OpenClaim := { program := "ytdlhfddmbdbedaadoor", sum := "350e192a52309d5dd76c5a61bb966518f7233685be8578acb4c1585f4d700aec", func := "watershed/watershedkeep.MobiusHall", spec := "mobiusHall", unfollowed := true, recurses := true, named := ["math/bits.deBruijn64tab"], apart := false, laid := [("math/bits.deBruijn64tab", laid_math_bits_deBruijn64tab)], narrowed := true }
def MobiusHallUptoSaid : Prop := mobiusHallUptoRow.holds Tryd.pinned (OpenSpec.upto mobiusHallSpec)

/-- 'watershedkeep.MobiusProducts', WHERE WHAT IT READS IS OF BULK AT MOST 1048576: true; the input reads as it did. -/
def mobiusProductsUptoRow : OpenClaim := { program := "ytdlhfddmbdbedaadoor", sum := "350e192a52309d5dd76c5a61bb966518f7233685be8578acb4c1585f4d700aec", func := "watershed/watershedkeep.MobiusProducts", spec := "mobiusProducts", unfollowed := true, recurses := true, named := ["math/bits.deBruijn64tab"], apart := false, laid := [("math/bits.deBruijn64tab", laid_math_bits_deBruijn64tab)], narrowed := true }
def MobiusProductsUptoSaid : Prop := mobiusProductsUptoRow.holds Tryd.pinned (OpenSpec.upto mobiusProductsSpec)

/-- 'watershedkeep.MobiusWeisner', WHERE WHAT IT READS IS OF BULK AT MOST 1048576: true; the input reads as it did. -/
def mobiusWeisnerUptoRow : OpenClaim := { program := "ytdlhfddmbdbedaadoor", sum := "350e192a52309d5dd76c5a61bb966518f7233685be8578acb4c1585f4d700aec", func := "watershed/watershedkeep.MobiusWeisner", spec := "mobiusWeisner", unfollowed := true, recurses := true, named := ["math/bits.deBruijn64tab"], apart := false, laid := [("math/bits.deBruijn64tab", laid_math_bits_deBruijn64tab)], narrowed := true }
def MobiusWeisnerUptoSaid : Prop := mobiusWeisnerUptoRow.holds Tryd.pinned (OpenSpec.upto mobiusWeisnerSpec)

/-- 'watershedkeep.MobiusAtoms', WHERE WHAT IT READS IS OF BULK AT MOST 1048576: true; the input reads as it did. -/
def mobiusAtomsUptoRow : OpenClaim := { program := "ytdlhfddmbdbedaadoor", sum := "350e192a52309d5dd76c5a61bb966518f7233685be8578acb4c1585f4d700aec", func := "watershed/watershedkeep.MobiusAtoms", spec := "mobiusAtoms", unfollowed := true, recurses := true, named := ["math/bits.deBruijn64tab"], apart := false, laid := [("math/bits.deBruijn64tab", laid_math_bits_deBruijn64tab)], narrowed := true }
def MobiusAtomsUptoSaid : Prop := mobiusAtomsUptoRow.holds Tryd.pinned (OpenSpec.upto mobiusAtomsSpec)

/-- 'watershedkeep.DownsSplits', WHERE WHAT IT READS IS OF BULK AT MOST 1048576: true; the input reads as it did. -/
def downsSplitsUptoRow : OpenClaim := { program := "ytdlhfddmbdbedaadoor", sum := "350e192a52309d5dd76c5a61bb966518f7233685be8578acb4c1585f4d700aec", func := "watershed/watershedkeep.DownsSplits", spec := "downsSplits", unfollowed := true, recurses := true, named := ["math/bits.deBruijn64tab"], apart := false, laid := [("math/bits.deBruijn64tab", laid_math_bits_deBruijn64tab)], narrowed := true }
def DownsSplitsUptoSaid : Prop := downsSplitsUptoRow.holds Tryd.pinned (OpenSpec.upto downsSplitsSpec)

/-- 'watershedkeep.DownsTurned', WHERE WHAT IT READS IS OF BULK AT MOST 1048576: true; the input reads as it did. -/
def downsTurnedUptoRow : OpenClaim := { program := "ytdlhfddmbdbedaadoor", sum := "350e192a52309d5dd76c5a61bb966518f7233685be8578acb4c1585f4d700aec", func := "watershed/watershedkeep.DownsTurned", spec := "downsTurned", unfollowed := true, recurses := true, named := ["math/bits.deBruijn64tab"], apart := false, laid := [("math/bits.deBruijn64tab", laid_math_bits_deBruijn64tab)], narrowed := true }
def DownsTurnedUptoSaid : Prop := downsTurnedUptoRow.holds Tryd.pinned (OpenSpec.upto downsTurnedSpec)

end Rows
end Go.Proofs.YtdlhfddmbdbedaaDoor
