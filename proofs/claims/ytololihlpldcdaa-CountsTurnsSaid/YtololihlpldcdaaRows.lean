/-
  No cell of these rows narrows 'for every input' (looked for: loops, veiled, ifaces, maps, wideKeys, modest, calm, conditions, laid).
  DERIVED. THE GIVEN ROWS OF THIS SEAT. 12 by the template 'for every input the law returns true; each argument reads behind the call as it read before'; 0 by the template 'total and deterministic' (their statements: YtololihlpldcdaaTotals.lean).
  GIVEN WITH THE SEED: the statements are not yours to turn. If you find one false, say at which input.
  Laid BY PROGRAM, IN A SANDBOX (cutbox-rows.mjs): the forced cells as the released guide's own fill.sh prints them over the translation 1001df29bbdfe6d0… (all of the seat's roots in one cut). By AI agents, Wed Nov 11 2026. No macro, syntax, notation, axiom, sorry.
-/
import Derived.Test.YtololihlpldcdaaChecked
import GoSem.Claim
import GoSem.ClaimJoined
import GoSem.ClaimMapViews
import Derived.JoinedTies
import Derived.KernelRfl
namespace Go.Proofs.Ytololihlpldcdaa
/- THE CELL 'sum', in the pinned program and in every row, IS THE sha256 OF THE DUMP (.gsa) THAT YtololihlpldcdaaProg.lean LOADS. Nothing in Lean hashes anything: it is a label: what it is worth is what the hold of that sum in a sandbox is worth. -/
noncomputable def Try.pinned : Pinned := { name := "ytololihlpldcdaa", sum := "1001df29bbdfe6d034bfc1ff7c6e55b3a8253d100a3a558b2fc971f4fd2a82f3", checked := Try.checked }
namespace Rows
def none {H : Type} : Left H := { results := [], args := [] }

/-- 'watershedkeep.TimesAnyhow': WHATEVER THE INPUT: true; the input reads as it did. -/
def timesAnyhowSpec : ChangeSpec := { name := "timesAnyhow", fn := fun _ => fun
  | [d1, d2] => { results := [.lit (.bool true)], args := [d1, d2] }
  | _ => none }
def timesAnyhowRow : OpenClaim := { program := "ytololihlpldcdaa", sum := "1001df29bbdfe6d034bfc1ff7c6e55b3a8253d100a3a558b2fc971f4fd2a82f3", func := "watershed/watershedkeep.TimesAnyhow", spec := "timesAnyhow", unfollowed := true, recurses := true, apart := false }
def TimesAnyhowSaid : Prop := timesAnyhowRow.holds Try.pinned (OpenSpec.ofChange timesAnyhowSpec)

/-- ITS FALSE NEIGHBOUR: 'it returns false'. Refute it at one input. -/
def timesAnyhowWrong : ChangeSpec := { name := "timesAnyhow", fn := fun _ => fun
  | [d1, d2] => { results := [.lit (.bool false)], args := [d1, d2] }
  | _ => none }
def TimesAnyhowWrongFalsely : Prop := timesAnyhowRow.holds Try.pinned (OpenSpec.ofChange timesAnyhowWrong)

/-- 'watershedkeep.TimesOwn': WHATEVER THE INPUT: true; the input reads as it did. -/
def timesOwnSpec : ChangeSpec := { name := "timesOwn", fn := fun _ => fun
  | [d] => { results := [.lit (.bool true)], args := [d] }
  | _ => none }
def timesOwnRow : OpenClaim := { program := "ytololihlpldcdaa", sum := "1001df29bbdfe6d034bfc1ff7c6e55b3a8253d100a3a558b2fc971f4fd2a82f3", func := "watershed/watershedkeep.TimesOwn", spec := "timesOwn", unfollowed := true, recurses := true, apart := false }
def TimesOwnSaid : Prop := timesOwnRow.holds Try.pinned (OpenSpec.ofChange timesOwnSpec)

/-- ITS FALSE NEIGHBOUR: 'it returns false'. Refute it at one input. -/
def timesOwnWrong : ChangeSpec := { name := "timesOwn", fn := fun _ => fun
  | [d] => { results := [.lit (.bool false)], args := [d] }
  | _ => none }
def TimesOwnWrongFalsely : Prop := timesOwnRow.holds Try.pinned (OpenSpec.ofChange timesOwnWrong)

/-- 'watershedkeep.TimesOpens': WHATEVER THE INPUT: true; the input reads as it did. -/
def timesOpensSpec : ChangeSpec := { name := "timesOpens", fn := fun _ => fun
  | [d1, d2] => { results := [.lit (.bool true)], args := [d1, d2] }
  | _ => none }
def timesOpensRow : OpenClaim := { program := "ytololihlpldcdaa", sum := "1001df29bbdfe6d034bfc1ff7c6e55b3a8253d100a3a558b2fc971f4fd2a82f3", func := "watershed/watershedkeep.TimesOpens", spec := "timesOpens", unfollowed := true, recurses := true, apart := false }
def TimesOpensSaid : Prop := timesOpensRow.holds Try.pinned (OpenSpec.ofChange timesOpensSpec)

/-- ITS FALSE NEIGHBOUR: 'it returns false'. Refute it at one input. -/
def timesOpensWrong : ChangeSpec := { name := "timesOpens", fn := fun _ => fun
  | [d1, d2] => { results := [.lit (.bool false)], args := [d1, d2] }
  | _ => none }
def TimesOpensWrongFalsely : Prop := timesOpensRow.holds Try.pinned (OpenSpec.ofChange timesOpensWrong)

/-- 'watershedkeep.TimesOrders': WHATEVER THE INPUT: true; the input reads as it did. -/
def timesOrdersSpec : ChangeSpec := { name := "timesOrders", fn := fun _ => fun
  | [d1, d2] => { results := [.lit (.bool true)], args := [d1, d2] }
  | _ => none }
def timesOrdersRow : OpenClaim := { program := "ytololihlpldcdaa", sum := "1001df29bbdfe6d034bfc1ff7c6e55b3a8253d100a3a558b2fc971f4fd2a82f3", func := "watershed/watershedkeep.TimesOrders", spec := "timesOrders", unfollowed := true, recurses := true, apart := false }
def TimesOrdersSaid : Prop := timesOrdersRow.holds Try.pinned (OpenSpec.ofChange timesOrdersSpec)

/-- ITS FALSE NEIGHBOUR: 'it returns false'. Refute it at one input. -/
def timesOrdersWrong : ChangeSpec := { name := "timesOrders", fn := fun _ => fun
  | [d1, d2] => { results := [.lit (.bool false)], args := [d1, d2] }
  | _ => none }
def TimesOrdersWrongFalsely : Prop := timesOrdersRow.holds Try.pinned (OpenSpec.ofChange timesOrdersWrong)

/-- 'watershedkeep.TimesMeets': WHATEVER THE INPUT: true; the input reads as it did. -/
def timesMeetsSpec : ChangeSpec := { name := "timesMeets", fn := fun _ => fun
  | [d1, d2, d3] => { results := [.lit (.bool true)], args := [d1, d2, d3] }
  | _ => none }
def timesMeetsRow : OpenClaim := { program := "ytololihlpldcdaa", sum := "1001df29bbdfe6d034bfc1ff7c6e55b3a8253d100a3a558b2fc971f4fd2a82f3", func := "watershed/watershedkeep.TimesMeets", spec := "timesMeets", unfollowed := true, recurses := true, apart := false }
def TimesMeetsSaid : Prop := timesMeetsRow.holds Try.pinned (OpenSpec.ofChange timesMeetsSpec)

/-- ITS FALSE NEIGHBOUR: 'it returns false'. Refute it at one input. -/
def timesMeetsWrong : ChangeSpec := { name := "timesMeets", fn := fun _ => fun
  | [d1, d2, d3] => { results := [.lit (.bool false)], args := [d1, d2, d3] }
  | _ => none }
def TimesMeetsWrongFalsely : Prop := timesMeetsRow.holds Try.pinned (OpenSpec.ofChange timesMeetsWrong)

/-- 'watershedkeep.SummaryLeast': WHATEVER THE INPUT: true; the input reads as it did. -/
def summaryLeastSpec : ChangeSpec := { name := "summaryLeast", fn := fun _ => fun
  | [d] => { results := [.lit (.bool true)], args := [d] }
  | _ => none }
def summaryLeastRow : OpenClaim := { program := "ytololihlpldcdaa", sum := "1001df29bbdfe6d034bfc1ff7c6e55b3a8253d100a3a558b2fc971f4fd2a82f3", func := "watershed/watershedkeep.SummaryLeast", spec := "summaryLeast", unfollowed := true, recurses := true, apart := false }
def SummaryLeastSaid : Prop := summaryLeastRow.holds Try.pinned (OpenSpec.ofChange summaryLeastSpec)

/-- ITS FALSE NEIGHBOUR: 'it returns false'. Refute it at one input. -/
def summaryLeastWrong : ChangeSpec := { name := "summaryLeast", fn := fun _ => fun
  | [d] => { results := [.lit (.bool false)], args := [d] }
  | _ => none }
def SummaryLeastWrongFalsely : Prop := summaryLeastRow.holds Try.pinned (OpenSpec.ofChange summaryLeastWrong)

/-- 'watershedkeep.SummaryGrows': WHATEVER THE INPUT: true; the input reads as it did. -/
def summaryGrowsSpec : ChangeSpec := { name := "summaryGrows", fn := fun _ => fun
  | [d1, d2, d3] => { results := [.lit (.bool true)], args := [d1, d2, d3] }
  | _ => none }
def summaryGrowsRow : OpenClaim := { program := "ytololihlpldcdaa", sum := "1001df29bbdfe6d034bfc1ff7c6e55b3a8253d100a3a558b2fc971f4fd2a82f3", func := "watershed/watershedkeep.SummaryGrows", spec := "summaryGrows", apart := false }
def SummaryGrowsSaid : Prop := summaryGrowsRow.holds Try.pinned (OpenSpec.ofChange summaryGrowsSpec)

/-- ITS FALSE NEIGHBOUR: 'it returns false'. Refute it at one input. -/
def summaryGrowsWrong : ChangeSpec := { name := "summaryGrows", fn := fun _ => fun
  | [d1, d2, d3] => { results := [.lit (.bool false)], args := [d1, d2, d3] }
  | _ => none }
def SummaryGrowsWrongFalsely : Prop := summaryGrowsRow.holds Try.pinned (OpenSpec.ofChange summaryGrowsWrong)

/-- 'watershedkeep.CountsTurns': WHATEVER THE INPUT: true; the input reads as it did. -/
def countsTurnsSpec : ChangeSpec := { name := "countsTurns", fn := fun _ => fun
  | [d1, d2] => { results := [.lit (.bool true)], args := [d1, d2] }
  | _ => none }
def countsTurnsRow : OpenClaim := { program := "ytololihlpldcdaa", sum := "1001df29bbdfe6d034bfc1ff7c6e55b3a8253d100a3a558b2fc971f4fd2a82f3", func := "watershed/watershedkeep.CountsTurns", spec := "countsTurns", unfollowed := true, recurses := true, apart := false }
def CountsTurnsSaid : Prop := countsTurnsRow.holds Try.pinned (OpenSpec.ofChange countsTurnsSpec)

/-- ITS FALSE NEIGHBOUR: 'it returns false'. Refute it at one input. -/
def countsTurnsWrong : ChangeSpec := { name := "countsTurns", fn := fun _ => fun
  | [d1, d2] => { results := [.lit (.bool false)], args := [d1, d2] }
  | _ => none }
def CountsTurnsWrongFalsely : Prop := countsTurnsRow.holds Try.pinned (OpenSpec.ofChange countsTurnsWrong)

/-- 'watershedkeep.CountsBack': WHATEVER THE INPUT: true; the input reads as it did. -/
def countsBackSpec : ChangeSpec := { name := "countsBack", fn := fun _ => fun
  | [d1, d2, d3] => { results := [.lit (.bool true)], args := [d1, d2, d3] }
  | _ => none }
def countsBackRow : OpenClaim := { program := "ytololihlpldcdaa", sum := "1001df29bbdfe6d034bfc1ff7c6e55b3a8253d100a3a558b2fc971f4fd2a82f3", func := "watershed/watershedkeep.CountsBack", spec := "countsBack", unfollowed := true, recurses := true, apart := false }
def CountsBackSaid : Prop := countsBackRow.holds Try.pinned (OpenSpec.ofChange countsBackSpec)

/-- ITS FALSE NEIGHBOUR: 'it returns false'. Refute it at one input. -/
def countsBackWrong : ChangeSpec := { name := "countsBack", fn := fun _ => fun
  | [d1, d2, d3] => { results := [.lit (.bool false)], args := [d1, d2, d3] }
  | _ => none }
def CountsBackWrongFalsely : Prop := countsBackRow.holds Try.pinned (OpenSpec.ofChange countsBackWrong)

/-- 'watershedkeep.CountsGroup': WHATEVER THE INPUT: true; the input reads as it did. -/
def countsGroupSpec : ChangeSpec := { name := "countsGroup", fn := fun _ => fun
  | [d1, d2, d3] => { results := [.lit (.bool true)], args := [d1, d2, d3] }
  | _ => none }
def countsGroupRow : OpenClaim := { program := "ytololihlpldcdaa", sum := "1001df29bbdfe6d034bfc1ff7c6e55b3a8253d100a3a558b2fc971f4fd2a82f3", func := "watershed/watershedkeep.CountsGroup", spec := "countsGroup", unfollowed := true, recurses := true, apart := false }
def CountsGroupSaid : Prop := countsGroupRow.holds Try.pinned (OpenSpec.ofChange countsGroupSpec)

/-- ITS FALSE NEIGHBOUR: 'it returns false'. Refute it at one input. -/
def countsGroupWrong : ChangeSpec := { name := "countsGroup", fn := fun _ => fun
  | [d1, d2, d3] => { results := [.lit (.bool false)], args := [d1, d2, d3] }
  | _ => none }
def CountsGroupWrongFalsely : Prop := countsGroupRow.holds Try.pinned (OpenSpec.ofChange countsGroupWrong)

/-- 'watershedkeep.QueueOrder': WHATEVER THE INPUT: true; the input reads as it did. -/
def queueOrderSpec : ChangeSpec := { name := "queueOrder", fn := fun _ => fun
  | [d1, d2, d3, d4] => { results := [.lit (.bool true)], args := [d1, d2, d3, d4] }
  | _ => none }
def queueOrderRow : OpenClaim := { program := "ytololihlpldcdaa", sum := "1001df29bbdfe6d034bfc1ff7c6e55b3a8253d100a3a558b2fc971f4fd2a82f3", func := "watershed/watershedkeep.QueueOrder", spec := "queueOrder", unfollowed := true, recurses := true, apart := false }
def QueueOrderSaid : Prop := queueOrderRow.holds Try.pinned (OpenSpec.ofChange queueOrderSpec)

/-- ITS FALSE NEIGHBOUR: 'it returns false'. Refute it at one input. -/
def queueOrderWrong : ChangeSpec := { name := "queueOrder", fn := fun _ => fun
  | [d1, d2, d3, d4] => { results := [.lit (.bool false)], args := [d1, d2, d3, d4] }
  | _ => none }
def QueueOrderWrongFalsely : Prop := queueOrderRow.holds Try.pinned (OpenSpec.ofChange queueOrderWrong)

/-- 'watershedkeep.SlotsBusy': WHATEVER THE INPUT: true; the input reads as it did. -/
def slotsBusySpec : ChangeSpec := { name := "slotsBusy", fn := fun _ => fun
  | [d1, d2, d3, d4] => { results := [.lit (.bool true)], args := [d1, d2, d3, d4] }
  | _ => none }
def slotsBusyRow : OpenClaim := { program := "ytololihlpldcdaa", sum := "1001df29bbdfe6d034bfc1ff7c6e55b3a8253d100a3a558b2fc971f4fd2a82f3", func := "watershed/watershedkeep.SlotsBusy", spec := "slotsBusy", unfollowed := true, recurses := true, apart := false }
def SlotsBusySaid : Prop := slotsBusyRow.holds Try.pinned (OpenSpec.ofChange slotsBusySpec)

/-- ITS FALSE NEIGHBOUR: 'it returns false'. Refute it at one input. -/
def slotsBusyWrong : ChangeSpec := { name := "slotsBusy", fn := fun _ => fun
  | [d1, d2, d3, d4] => { results := [.lit (.bool false)], args := [d1, d2, d3, d4] }
  | _ => none }
def SlotsBusyWrongFalsely : Prop := slotsBusyRow.holds Try.pinned (OpenSpec.ofChange slotsBusyWrong)

/- THE SECOND FORM. 'bulk': how many values and letters a reading holds, each counted each time it is reached (what is shared counts as often as it is met; a slice's spare places count too). A statement '..UptoSaid' is the law's where the arguments, and the package variables that the reading takes, are together of bulk at most 1048576: NARROWER than '..Said'. Prove '..Said' where nothing that the law and all that it calls make is longer than what came in: it says more and counts as full. Else prove '..UptoSaid'. A law counts once. -/
mutual
def uptoBulk {H : Type} : DataW H → Nat
  | .lit (.string bytes) => bytes.length + 1
  | .lit _ => 1
  | .nil => 1
  | .ptr d => uptoBulk d + 1
  | .slice elems spare => uptoBulkAll elems + uptoBulkAll spare + 1
  | .agg parts => uptoBulkAll parts + 1
  | .iface _ d => uptoBulk d + 1
  | .map entries => uptoBulkEntries entries + 1
  | .held _ => 1
def uptoBulkAll {H : Type} : List (DataW H) → Nat
  | [] => 0
  | d :: r => uptoBulk d + uptoBulkAll r
def uptoBulkEntries {H : Type} : List (Lit × DataW H) → Nat
  | [] => 0
  | x :: r => uptoBulkEntry x + uptoBulkEntries r
def uptoBulkEntry {H : Type} : Lit × DataW H → Nat
  | (.string bytes, d) => bytes.length + uptoBulk d + 1
  | (_, d) => uptoBulk d + 1
 end
def uptoSmall : (H : Type) → List (DataW H) → Bool := fun _ ds => decide (uptoBulkAll ds ≤ 1048576)
def OpenSpec.upto (s : _root_.Go.ChangeSpec) : _root_.Go.OpenSpec := { _root_.Go.OpenSpec.ofChange s with cond := some uptoSmall }

/-- 'watershedkeep.TimesAnyhow', WHERE WHAT IT READS IS OF BULK AT MOST 1048576: true; the input reads as it did. -/
def timesAnyhowUptoRow : OpenClaim := { program := "ytololihlpldcdaa", sum := "1001df29bbdfe6d034bfc1ff7c6e55b3a8253d100a3a558b2fc971f4fd2a82f3", func := "watershed/watershedkeep.TimesAnyhow", spec := "timesAnyhow", unfollowed := true, recurses := true, apart := false, narrowed := true }
def TimesAnyhowUptoSaid : Prop := timesAnyhowUptoRow.holds Try.pinned (OpenSpec.upto timesAnyhowSpec)

/-- 'watershedkeep.TimesOwn', WHERE WHAT IT READS IS OF BULK AT MOST 1048576: true; the input reads as it did. -/
def timesOwnUptoRow : OpenClaim := { program := "ytololihlpldcdaa", sum := "1001df29bbdfe6d034bfc1ff7c6e55b3a8253d100a3a558b2fc971f4fd2a82f3", func := "watershed/watershedkeep.TimesOwn", spec := "timesOwn", unfollowed := true, recurses := true, apart := false, narrowed := true }
def TimesOwnUptoSaid : Prop := timesOwnUptoRow.holds Try.pinned (OpenSpec.upto timesOwnSpec)

/-- 'watershedkeep.TimesOpens', WHERE WHAT IT READS IS OF BULK AT MOST 1048576: true; the input reads as it did. -/
def timesOpensUptoRow : OpenClaim := { program := "ytololihlpldcdaa", sum := "1001df29bbdfe6d034bfc1ff7c6e55b3a8253d100a3a558b2fc971f4fd2a82f3", func := "watershed/watershedkeep.TimesOpens", spec := "timesOpens", unfollowed := true, recurses := true, apart := false, narrowed := true }
def TimesOpensUptoSaid : Prop := timesOpensUptoRow.holds Try.pinned (OpenSpec.upto timesOpensSpec)

/-- 'watershedkeep.TimesOrders', WHERE WHAT IT READS IS OF BULK AT MOST 1048576: true; the input reads as it did. -/
def timesOrdersUptoRow : OpenClaim := { program := "ytololihlpldcdaa", sum := "1001df29bbdfe6d034bfc1ff7c6e55b3a8253d100a3a558b2fc971f4fd2a82f3", func := "watershed/watershedkeep.TimesOrders", spec := "timesOrders", unfollowed := true, recurses := true, apart := false, narrowed := true }
def TimesOrdersUptoSaid : Prop := timesOrdersUptoRow.holds Try.pinned (OpenSpec.upto timesOrdersSpec)

/-- 'watershedkeep.TimesMeets', WHERE WHAT IT READS IS OF BULK AT MOST 1048576: true; the input reads as it did. -/
def timesMeetsUptoRow : OpenClaim := { program := "ytololihlpldcdaa", sum := "1001df29bbdfe6d034bfc1ff7c6e55b3a8253d100a3a558b2fc971f4fd2a82f3", func := "watershed/watershedkeep.TimesMeets", spec := "timesMeets", unfollowed := true, recurses := true, apart := false, narrowed := true }
def TimesMeetsUptoSaid : Prop := timesMeetsUptoRow.holds Try.pinned (OpenSpec.upto timesMeetsSpec)

/-- 'watershedkeep.SummaryLeast', WHERE WHAT IT READS IS OF BULK AT MOST 1048576: true; the input reads as it did. -/
def summaryLeastUptoRow : OpenClaim := { program := "ytololihlpldcdaa", sum := "1001df29bbdfe6d034bfc1ff7c6e55b3a8253d100a3a558b2fc971f4fd2a82f3", func := "watershed/watershedkeep.SummaryLeast", spec := "summaryLeast", unfollowed := true, recurses := true, apart := false, narrowed := true }
def SummaryLeastUptoSaid : Prop := summaryLeastUptoRow.holds Try.pinned (OpenSpec.upto summaryLeastSpec)

/-- 'watershedkeep.SummaryGrows', WHERE WHAT IT READS IS OF BULK AT MOST 1048576: true; the input reads as it did. -/
def summaryGrowsUptoRow : OpenClaim := { program := "ytololihlpldcdaa", sum := "1001df29bbdfe6d034bfc1ff7c6e55b3a8253d100a3a558b2fc971f4fd2a82f3", func := "watershed/watershedkeep.SummaryGrows", spec := "summaryGrows", apart := false, narrowed := true }
def SummaryGrowsUptoSaid : Prop := summaryGrowsUptoRow.holds Try.pinned (OpenSpec.upto summaryGrowsSpec)

/-- 'watershedkeep.CountsTurns', WHERE WHAT IT READS IS OF BULK AT MOST 1048576: true; the input reads as it did. -/
def countsTurnsUptoRow : OpenClaim := { program := "ytololihlpldcdaa", sum := "1001df29bbdfe6d034bfc1ff7c6e55b3a8253d100a3a558b2fc971f4fd2a82f3", func := "watershed/watershedkeep.CountsTurns", spec := "countsTurns", unfollowed := true, recurses := true, apart := false, narrowed := true }
def CountsTurnsUptoSaid : Prop := countsTurnsUptoRow.holds Try.pinned (OpenSpec.upto countsTurnsSpec)

/-- 'watershedkeep.CountsBack', WHERE WHAT IT READS IS OF BULK AT MOST 1048576: true; the input reads as it did. -/
def countsBackUptoRow : OpenClaim := { program := "ytololihlpldcdaa", sum := "1001df29bbdfe6d034bfc1ff7c6e55b3a8253d100a3a558b2fc971f4fd2a82f3", func := "watershed/watershedkeep.CountsBack", spec := "countsBack", unfollowed := true, recurses := true, apart := false, narrowed := true }
def CountsBackUptoSaid : Prop := countsBackUptoRow.holds Try.pinned (OpenSpec.upto countsBackSpec)

/-- 'watershedkeep.CountsGroup', WHERE WHAT IT READS IS OF BULK AT MOST 1048576: true; the input reads as it did. -/
def countsGroupUptoRow : OpenClaim := { program := "ytololihlpldcdaa", sum := "1001df29bbdfe6d034bfc1ff7c6e55b3a8253d100a3a558b2fc971f4fd2a82f3", func := "watershed/watershedkeep.CountsGroup", spec := "countsGroup", unfollowed := true, recurses := true, apart := false, narrowed := true }
def CountsGroupUptoSaid : Prop := countsGroupUptoRow.holds Try.pinned (OpenSpec.upto countsGroupSpec)

/-- 'watershedkeep.QueueOrder', WHERE WHAT IT READS IS OF BULK AT MOST 1048576: true; the input reads as it did. -/
def queueOrderUptoRow : OpenClaim := { program := "ytololihlpldcdaa", sum := "1001df29bbdfe6d034bfc1ff7c6e55b3a8253d100a3a558b2fc971f4fd2a82f3", func := "watershed/watershedkeep.QueueOrder", spec := "queueOrder", unfollowed := true, recurses := true, apart := false, narrowed := true }
def QueueOrderUptoSaid : Prop := queueOrderUptoRow.holds Try.pinned (OpenSpec.upto queueOrderSpec)

/-- 'watershedkeep.SlotsBusy', WHERE WHAT IT READS IS OF BULK AT MOST 1048576: true; the input reads as it did. -/
def slotsBusyUptoRow : OpenClaim := { program := "ytololihlpldcdaa", sum := "1001df29bbdfe6d034bfc1ff7c6e55b3a8253d100a3a558b2fc971f4fd2a82f3", func := "watershed/watershedkeep.SlotsBusy", spec := "slotsBusy", unfollowed := true, recurses := true, apart := false, narrowed := true }
def SlotsBusyUptoSaid : Prop := slotsBusyUptoRow.holds Try.pinned (OpenSpec.upto slotsBusySpec)

end Rows
end Go.Proofs.Ytololihlpldcdaa
