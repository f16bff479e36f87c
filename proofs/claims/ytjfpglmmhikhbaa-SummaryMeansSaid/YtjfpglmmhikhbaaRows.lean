/-
  No cell of these rows narrows 'for every input' (looked for: loops, veiled, ifaces, maps, wideKeys, modest, calm, conditions, laid).
  DERIVED. THE GIVEN ROWS OF THIS SEAT. 10 by the template 'for every input the law returns true; each argument reads behind the call as it read before'; 0 by the template 'total and deterministic' (their statements: YtjfpglmmhikhbaaTotals.lean).
  GIVEN WITH THE SEED: the statements are not yours to turn. If you find one false, say at which input.
  Laid BY PROGRAM, IN A SANDBOX (cutbox-rows.mjs): the forced cells as the released guide's own fill.sh prints them over the translation a98f41ac1cce4f92… (all of the seat's roots in one cut). By AI agents, Wed Nov 11 2026. No macro, syntax, notation, axiom, sorry.
-/
import Derived.Test.YtjfpglmmhikhbaaChecked
import GoSem.Claim
import GoSem.ClaimJoined
import GoSem.ClaimMapViews
import Derived.JoinedTies
import Derived.KernelRfl
namespace Go.Proofs.Ytjfpglmmhikhbaa
/- THE CELL 'sum', in the pinned program and in every row, IS THE sha256 OF THE DUMP (.gsa) THAT YtjfpglmmhikhbaaProg.lean LOADS. Nothing in Lean hashes anything: it is a label: what it is worth is what the hold of that sum in a sandbox is worth. -/
noncomputable def Try.pinned : Pinned := { name := "ytjfpglmmhikhbaa", sum := "a98f41ac1cce4f92d7ce3fc5507002b19a3e46f217e81decbbd82cc7cbc8c3c0", checked := Try.checked }
namespace Rows
def none {H : Type} : Left H := { results := [], args := [] }

/-- 'watershedkeep.WireNums': WHATEVER THE INPUT: true; the input reads as it did. -/
def wireNumsSpec : ChangeSpec := { name := "wireNums", fn := fun _ => fun
  | [d1, d2] => { results := [.lit (.bool true)], args := [d1, d2] }
  | _ => none }
def wireNumsRow : OpenClaim := { program := "ytjfpglmmhikhbaa", sum := "a98f41ac1cce4f92d7ce3fc5507002b19a3e46f217e81decbbd82cc7cbc8c3c0", func := "watershed/watershedkeep.WireNums", spec := "wireNums", apart := false }
def WireNumsSaid : Prop := wireNumsRow.holds Try.pinned (OpenSpec.ofChange wireNumsSpec)

/-- ITS FALSE NEIGHBOUR: 'it returns false'. Refute it at one input. -/
def wireNumsWrong : ChangeSpec := { name := "wireNums", fn := fun _ => fun
  | [d1, d2] => { results := [.lit (.bool false)], args := [d1, d2] }
  | _ => none }
def WireNumsWrongFalsely : Prop := wireNumsRow.holds Try.pinned (OpenSpec.ofChange wireNumsWrong)

/-- 'watershedkeep.TimesLattice': WHATEVER THE INPUT: true; the input reads as it did. -/
def timesLatticeSpec : ChangeSpec := { name := "timesLattice", fn := fun _ => fun
  | [d1, d2, d3] => { results := [.lit (.bool true)], args := [d1, d2, d3] }
  | _ => none }
def timesLatticeRow : OpenClaim := { program := "ytjfpglmmhikhbaa", sum := "a98f41ac1cce4f92d7ce3fc5507002b19a3e46f217e81decbbd82cc7cbc8c3c0", func := "watershed/watershedkeep.TimesLattice", spec := "timesLattice", unfollowed := true, recurses := true, apart := false }
def TimesLatticeSaid : Prop := timesLatticeRow.holds Try.pinned (OpenSpec.ofChange timesLatticeSpec)

/-- ITS FALSE NEIGHBOUR: 'it returns false'. Refute it at one input. -/
def timesLatticeWrong : ChangeSpec := { name := "timesLattice", fn := fun _ => fun
  | [d1, d2, d3] => { results := [.lit (.bool false)], args := [d1, d2, d3] }
  | _ => none }
def TimesLatticeWrongFalsely : Prop := timesLatticeRow.holds Try.pinned (OpenSpec.ofChange timesLatticeWrong)

/-- 'watershedkeep.SummaryBrackets': WHATEVER THE INPUT: true; the input reads as it did. -/
def summaryBracketsSpec : ChangeSpec := { name := "summaryBrackets", fn := fun _ => fun
  | [d1, d2, d3] => { results := [.lit (.bool true)], args := [d1, d2, d3] }
  | _ => none }
def summaryBracketsRow : OpenClaim := { program := "ytjfpglmmhikhbaa", sum := "a98f41ac1cce4f92d7ce3fc5507002b19a3e46f217e81decbbd82cc7cbc8c3c0", func := "watershed/watershedkeep.SummaryBrackets", spec := "summaryBrackets", apart := false }
def SummaryBracketsSaid : Prop := summaryBracketsRow.holds Try.pinned (OpenSpec.ofChange summaryBracketsSpec)

/-- ITS FALSE NEIGHBOUR: 'it returns false'. Refute it at one input. -/
def summaryBracketsWrong : ChangeSpec := { name := "summaryBrackets", fn := fun _ => fun
  | [d1, d2, d3] => { results := [.lit (.bool false)], args := [d1, d2, d3] }
  | _ => none }
def SummaryBracketsWrongFalsely : Prop := summaryBracketsRow.holds Try.pinned (OpenSpec.ofChange summaryBracketsWrong)

/-- 'watershedkeep.SummaryUnits': WHATEVER THE INPUT: true; the input reads as it did. -/
def summaryUnitsSpec : ChangeSpec := { name := "summaryUnits", fn := fun _ => fun
  | [d1, d2] => { results := [.lit (.bool true)], args := [d1, d2] }
  | _ => none }
def summaryUnitsRow : OpenClaim := { program := "ytjfpglmmhikhbaa", sum := "a98f41ac1cce4f92d7ce3fc5507002b19a3e46f217e81decbbd82cc7cbc8c3c0", func := "watershed/watershedkeep.SummaryUnits", spec := "summaryUnits", apart := false }
def SummaryUnitsSaid : Prop := summaryUnitsRow.holds Try.pinned (OpenSpec.ofChange summaryUnitsSpec)

/-- ITS FALSE NEIGHBOUR: 'it returns false'. Refute it at one input. -/
def summaryUnitsWrong : ChangeSpec := { name := "summaryUnits", fn := fun _ => fun
  | [d1, d2] => { results := [.lit (.bool false)], args := [d1, d2] }
  | _ => none }
def SummaryUnitsWrongFalsely : Prop := summaryUnitsRow.holds Try.pinned (OpenSpec.ofChange summaryUnitsWrong)

/-- 'watershedkeep.SummaryOne': WHATEVER THE INPUT: true; the input reads as it did. -/
def summaryOneSpec : ChangeSpec := { name := "summaryOne", fn := fun _ => fun
  | [d1, d2, d3] => { results := [.lit (.bool true)], args := [d1, d2, d3] }
  | _ => none }
def summaryOneRow : OpenClaim := { program := "ytjfpglmmhikhbaa", sum := "a98f41ac1cce4f92d7ce3fc5507002b19a3e46f217e81decbbd82cc7cbc8c3c0", func := "watershed/watershedkeep.SummaryOne", spec := "summaryOne", apart := false }
def SummaryOneSaid : Prop := summaryOneRow.holds Try.pinned (OpenSpec.ofChange summaryOneSpec)

/-- ITS FALSE NEIGHBOUR: 'it returns false'. Refute it at one input. -/
def summaryOneWrong : ChangeSpec := { name := "summaryOne", fn := fun _ => fun
  | [d1, d2, d3] => { results := [.lit (.bool false)], args := [d1, d2, d3] }
  | _ => none }
def SummaryOneWrongFalsely : Prop := summaryOneRow.holds Try.pinned (OpenSpec.ofChange summaryOneWrong)

/-- 'watershedkeep.SummaryMonotone': WHATEVER THE INPUT: true; the input reads as it did. -/
def summaryMonotoneSpec : ChangeSpec := { name := "summaryMonotone", fn := fun _ => fun
  | [d1, d2, d3] => { results := [.lit (.bool true)], args := [d1, d2, d3] }
  | _ => none }
def summaryMonotoneRow : OpenClaim := { program := "ytjfpglmmhikhbaa", sum := "a98f41ac1cce4f92d7ce3fc5507002b19a3e46f217e81decbbd82cc7cbc8c3c0", func := "watershed/watershedkeep.SummaryMonotone", spec := "summaryMonotone", apart := false }
def SummaryMonotoneSaid : Prop := summaryMonotoneRow.holds Try.pinned (OpenSpec.ofChange summaryMonotoneSpec)

/-- ITS FALSE NEIGHBOUR: 'it returns false'. Refute it at one input. -/
def summaryMonotoneWrong : ChangeSpec := { name := "summaryMonotone", fn := fun _ => fun
  | [d1, d2, d3] => { results := [.lit (.bool false)], args := [d1, d2, d3] }
  | _ => none }
def SummaryMonotoneWrongFalsely : Prop := summaryMonotoneRow.holds Try.pinned (OpenSpec.ofChange summaryMonotoneWrong)

/-- 'watershedkeep.TimesExtends': WHATEVER THE INPUT: true; the input reads as it did. -/
def timesExtendsSpec : ChangeSpec := { name := "timesExtends", fn := fun _ => fun
  | [d1, d2, d3] => { results := [.lit (.bool true)], args := [d1, d2, d3] }
  | _ => none }
def timesExtendsRow : OpenClaim := { program := "ytjfpglmmhikhbaa", sum := "a98f41ac1cce4f92d7ce3fc5507002b19a3e46f217e81decbbd82cc7cbc8c3c0", func := "watershed/watershedkeep.TimesExtends", spec := "timesExtends", apart := false }
def TimesExtendsSaid : Prop := timesExtendsRow.holds Try.pinned (OpenSpec.ofChange timesExtendsSpec)

/-- ITS FALSE NEIGHBOUR: 'it returns false'. Refute it at one input. -/
def timesExtendsWrong : ChangeSpec := { name := "timesExtends", fn := fun _ => fun
  | [d1, d2, d3] => { results := [.lit (.bool false)], args := [d1, d2, d3] }
  | _ => none }
def TimesExtendsWrongFalsely : Prop := timesExtendsRow.holds Try.pinned (OpenSpec.ofChange timesExtendsWrong)

/-- 'watershedkeep.SummaryGrows': WHATEVER THE INPUT: true; the input reads as it did. -/
def summaryGrowsSpec : ChangeSpec := { name := "summaryGrows", fn := fun _ => fun
  | [d1, d2, d3] => { results := [.lit (.bool true)], args := [d1, d2, d3] }
  | _ => none }
def summaryGrowsRow : OpenClaim := { program := "ytjfpglmmhikhbaa", sum := "a98f41ac1cce4f92d7ce3fc5507002b19a3e46f217e81decbbd82cc7cbc8c3c0", func := "watershed/watershedkeep.SummaryGrows", spec := "summaryGrows", apart := false }
def SummaryGrowsSaid : Prop := summaryGrowsRow.holds Try.pinned (OpenSpec.ofChange summaryGrowsSpec)

/-- ITS FALSE NEIGHBOUR: 'it returns false'. Refute it at one input. -/
def summaryGrowsWrong : ChangeSpec := { name := "summaryGrows", fn := fun _ => fun
  | [d1, d2, d3] => { results := [.lit (.bool false)], args := [d1, d2, d3] }
  | _ => none }
def SummaryGrowsWrongFalsely : Prop := summaryGrowsRow.holds Try.pinned (OpenSpec.ofChange summaryGrowsWrong)

/-- 'watershedkeep.SummaryComposes': WHATEVER THE INPUT: true; the input reads as it did. -/
def summaryComposesSpec : ChangeSpec := { name := "summaryComposes", fn := fun _ => fun
  | [d1, d2, d3] => { results := [.lit (.bool true)], args := [d1, d2, d3] }
  | _ => none }
def summaryComposesRow : OpenClaim := { program := "ytjfpglmmhikhbaa", sum := "a98f41ac1cce4f92d7ce3fc5507002b19a3e46f217e81decbbd82cc7cbc8c3c0", func := "watershed/watershedkeep.SummaryComposes", spec := "summaryComposes", apart := false }
def SummaryComposesSaid : Prop := summaryComposesRow.holds Try.pinned (OpenSpec.ofChange summaryComposesSpec)

/-- ITS FALSE NEIGHBOUR: 'it returns false'. Refute it at one input. -/
def summaryComposesWrong : ChangeSpec := { name := "summaryComposes", fn := fun _ => fun
  | [d1, d2, d3] => { results := [.lit (.bool false)], args := [d1, d2, d3] }
  | _ => none }
def SummaryComposesWrongFalsely : Prop := summaryComposesRow.holds Try.pinned (OpenSpec.ofChange summaryComposesWrong)

/-- 'watershedkeep.SummaryMeans': WHATEVER THE INPUT: true; the input reads as it did. -/
def summaryMeansSpec : ChangeSpec := { name := "summaryMeans", fn := fun _ => fun
  | [d1, d2, d3] => { results := [.lit (.bool true)], args := [d1, d2, d3] }
  | _ => none }
def summaryMeansRow : OpenClaim := { program := "ytjfpglmmhikhbaa", sum := "a98f41ac1cce4f92d7ce3fc5507002b19a3e46f217e81decbbd82cc7cbc8c3c0", func := "watershed/watershedkeep.SummaryMeans", spec := "summaryMeans", apart := false }
def SummaryMeansSaid : Prop := summaryMeansRow.holds Try.pinned (OpenSpec.ofChange summaryMeansSpec)

/-- ITS FALSE NEIGHBOUR: 'it returns false'. Refute it at one input. -/
def summaryMeansWrong : ChangeSpec := { name := "summaryMeans", fn := fun _ => fun
  | [d1, d2, d3] => { results := [.lit (.bool false)], args := [d1, d2, d3] }
  | _ => none }
def SummaryMeansWrongFalsely : Prop := summaryMeansRow.holds Try.pinned (OpenSpec.ofChange summaryMeansWrong)

/- THE SECOND FORM. 'bulk': how many values and letters a reading holds, each counted each time it is reached (what is shared counts as often as it is met; a slice's spare places count too). A statement '..UptoSaid' is the law's where the arguments, and the package variables that the reading takes, are together of bulk at most 1048576: NARROWER than '..Said'. Prove '..Said' where nothing that the law and all that it calls make is longer than what came in: it says more and counts as full. Else prove '..UptoSaid'. A law counts once. -/
mutual
def uptoBulk {H : Type} : DataW H → Nat
  | .lit (.string bytes) => bytes.length + 1
  | .lit _ => 1
  | .nil => 1
  | .ptr d => uptoBulk d + 1
  | .slice elems spare => uptoBulkAll elems + uptoBulkAll spare + 1
  | .agg parts => uptoBulkAll parts + 1
  | .iface _ d => uptoBulk d + 1
  | .map entries => uptoBulkEntries entries + 1
  | .held _ => 1
def uptoBulkAll {H : Type} : List (DataW H) → Nat
  | [] => 0
  | d :: r => uptoBulk d + uptoBulkAll r
def uptoBulkEntries {H : Type} : List (Lit × DataW H) → Nat
  | [] => 0
  | x :: r => uptoBulkEntry x + uptoBulkEntries r
def uptoBulkEntry {H : Type} : Lit × DataW H → Nat
  | (.string bytes, d) => bytes.length + uptoBulk d + 1
  | (_, d) => uptoBulk d + 1
 end
def uptoSmall : (H : Type) → List (DataW H) → Bool := fun _ ds => decide (uptoBulkAll ds ≤ 1048576)
def OpenSpec.upto (s : _root_.Go.ChangeSpec) : _root_.Go.OpenSpec := { _root_.Go.OpenSpec.ofChange s with cond := some uptoSmall }

/-- 'watershedkeep.WireNums', WHERE WHAT IT READS IS OF BULK AT MOST 1048576: true; the input reads as it did. -/
def wireNumsUptoRow : OpenClaim := { program := "ytjfpglmmhikhbaa", sum := "a98f41ac1cce4f92d7ce3fc5507002b19a3e46f217e81decbbd82cc7cbc8c3c0", func := "watershed/watershedkeep.WireNums", spec := "wireNums", apart := false, narrowed := true }
def WireNumsUptoSaid : Prop := wireNumsUptoRow.holds Try.pinned (OpenSpec.upto wireNumsSpec)

/-- 'watershedkeep.TimesLattice', WHERE WHAT IT READS IS OF BULK AT MOST 1048576: true; the input reads as it did. -/
def timesLatticeUptoRow : OpenClaim := { program := "ytjfpglmmhikhbaa", sum := "a98f41ac1cce4f92d7ce3fc5507002b19a3e46f217e81decbbd82cc7cbc8c3c0", func := "watershed/watershedkeep.TimesLattice", spec := "timesLattice", unfollowed := true, recurses := true, apart := false, narrowed := true }
def TimesLatticeUptoSaid : Prop := timesLatticeUptoRow.holds Try.pinned (OpenSpec.upto timesLatticeSpec)

/-- 'watershedkeep.SummaryBrackets', WHERE WHAT IT READS IS OF BULK AT MOST 1048576: true; the input reads as it did. -/
def summaryBracketsUptoRow : OpenClaim := { program := "ytjfpglmmhikhbaa", sum := "a98f41ac1cce4f92d7ce3fc5507002b19a3e46f217e81decbbd82cc7cbc8c3c0", func := "watershed/watershedkeep.SummaryBrackets", spec := "summaryBrackets", apart := false, narrowed := true }
def SummaryBracketsUptoSaid : Prop := summaryBracketsUptoRow.holds Try.pinned (OpenSpec.upto summaryBracketsSpec)

/-- 'watershedkeep.SummaryUnits', WHERE WHAT IT READS IS OF BULK AT MOST 1048576: true; the input reads as it did. -/
def summaryUnitsUptoRow : OpenClaim := { program := "ytjfpglmmhikhbaa", sum := "a98f41ac1cce4f92d7ce3fc5507002b19a3e46f217e81decbbd82cc7cbc8c3c0", func := "watershed/watershedkeep.SummaryUnits", spec := "summaryUnits", apart := false, narrowed := true }
def SummaryUnitsUptoSaid : Prop := summaryUnitsUptoRow.holds Try.pinned (OpenSpec.upto summaryUnitsSpec)

/-- 'watershedkeep.SummaryOne', WHERE WHAT IT READS IS OF BULK AT MOST 1048576: true; the input reads as it did. -/
def summaryOneUptoRow : OpenClaim := { program := "ytjfpglmmhikhbaa", sum := "a98f41ac1cce4f92d7ce3fc5507002b19a3e46f217e81decbbd82cc7cbc8c3c0", func := "watershed/watershedkeep.SummaryOne", spec := "summaryOne", apart := false, narrowed := true }
def SummaryOneUptoSaid : Prop := summaryOneUptoRow.holds Try.pinned (OpenSpec.upto summaryOneSpec)

/-- 'watershedkeep.SummaryMonotone', WHERE WHAT IT READS IS OF BULK AT MOST 1048576: true; the input reads as it did. -/
def summaryMonotoneUptoRow : OpenClaim := { program := "ytjfpglmmhikhbaa", sum := "a98f41ac1cce4f92d7ce3fc5507002b19a3e46f217e81decbbd82cc7cbc8c3c0", func := "watershed/watershedkeep.SummaryMonotone", spec := "summaryMonotone", apart := false, narrowed := true }
def SummaryMonotoneUptoSaid : Prop := summaryMonotoneUptoRow.holds Try.pinned (OpenSpec.upto summaryMonotoneSpec)

/-- 'watershedkeep.TimesExtends', WHERE WHAT IT READS IS OF BULK AT MOST 1048576: true; the input reads as it did. -/
def timesExtendsUptoRow : OpenClaim := { program := "ytjfpglmmhikhbaa", sum := "a98f41ac1cce4f92d7ce3fc5507002b19a3e46f217e81decbbd82cc7cbc8c3c0", func := "watershed/watershedkeep.TimesExtends", spec := "timesExtends", apart := false, narrowed := true }
def TimesExtendsUptoSaid : Prop := timesExtendsUptoRow.holds Try.pinned (OpenSpec.upto timesExtendsSpec)

/-- 'watershedkeep.SummaryGrows', WHERE WHAT IT READS IS OF BULK AT MOST 1048576: true; the input reads as it did. -/
def summaryGrowsUptoRow : OpenClaim := { program := "ytjfpglmmhikhbaa", sum := "a98f41ac1cce4f92d7ce3fc5507002b19a3e46f217e81decbbd82cc7cbc8c3c0", func := "watershed/watershedkeep.SummaryGrows", spec := "summaryGrows", apart := false, narrowed := true }
def SummaryGrowsUptoSaid : Prop := summaryGrowsUptoRow.holds Try.pinned (OpenSpec.upto summaryGrowsSpec)

/-- 'watershedkeep.SummaryComposes', WHERE WHAT IT READS IS OF BULK AT MOST 1048576: true; the input reads as it did. -/
def summaryComposesUptoRow : OpenClaim := { program := "ytjfpglmmhikhbaa", sum := "a98f41ac1cce4f92d7ce3fc5507002b19a3e46f217e81decbbd82cc7cbc8c3c0", func := "watershed/watershedkeep.SummaryComposes", spec := "summaryComposes", apart := false, narrowed := true }
def SummaryComposesUptoSaid : Prop := summaryComposesUptoRow.holds Try.pinned (OpenSpec.upto summaryComposesSpec)

/-- 'watershedkeep.SummaryMeans', WHERE WHAT IT READS IS OF BULK AT MOST 1048576: true; the input reads as it did. -/
def summaryMeansUptoRow : OpenClaim := { program := "ytjfpglmmhikhbaa", sum := "a98f41ac1cce4f92d7ce3fc5507002b19a3e46f217e81decbbd82cc7cbc8c3c0", func := "watershed/watershedkeep.SummaryMeans", spec := "summaryMeans", apart := false, narrowed := true }
def SummaryMeansUptoSaid : Prop := summaryMeansUptoRow.holds Try.pinned (OpenSpec.upto summaryMeansSpec)

end Rows
end Go.Proofs.Ytjfpglmmhikhbaa
