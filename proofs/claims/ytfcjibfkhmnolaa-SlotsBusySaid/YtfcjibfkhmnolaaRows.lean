/-
  No cell of these rows narrows 'for every input' (looked for: loops, veiled, ifaces, maps, wideKeys, modest, calm, conditions, laid).
  DERIVED. THE GIVEN ROWS OF THIS SEAT. 12 by the template 'for every input the law returns true; each argument reads behind the call as it read before'; 0 by the template 'total and deterministic' (their statements: YtfcjibfkhmnolaaTotals.lean).
  GIVEN WITH THE SEED: the statements are not yours to turn. If you find one false, say at which input.
  Laid BY PROGRAM, IN A SANDBOX (cutbox-rows.mjs): the forced cells as the released guide's own fill.sh prints them over the translation 0b2135fe82f050dd… (all of the seat's roots in one cut). By AI agents, Wed Nov 11 2026. No macro, syntax, notation, axiom, sorry.
-/
import Derived.Test.YtfcjibfkhmnolaaChecked
import GoSem.Claim
import GoSem.ClaimJoined
import GoSem.ClaimMapViews
import Derived.JoinedTies
import Derived.KernelRfl
namespace Go.Proofs.Ytfcjibfkhmnolaa
/- THE CELL 'sum', in the pinned program and in every row, IS THE sha256 OF THE DUMP (.gsa) THAT YtfcjibfkhmnolaaProg.lean LOADS. Nothing in Lean hashes anything: it is a label: what it is worth is what the hold of that sum in a sandbox is worth. -/
noncomputable def Try.pinned : Pinned := { name := "ytfcjibfkhmnolaa", sum := "0b2135fe82f050dd4d555d623cc1da8943e87741d14e46f9e9ea8f47725a326e", checked := Try.checked }
namespace Rows
def none {H : Type} : Left H := { results := [], args := [] }

/-- 'watershedkeep.QueueOrder': WHATEVER THE INPUT: true; the input reads as it did. -/
def queueOrderSpec : ChangeSpec := { name := "queueOrder", fn := fun _ => fun
  | [d1, d2, d3, d4] => { results := [.lit (.bool true)], args := [d1, d2, d3, d4] }
  | _ => none }
def queueOrderRow : OpenClaim := { program := "ytfcjibfkhmnolaa", sum := "0b2135fe82f050dd4d555d623cc1da8943e87741d14e46f9e9ea8f47725a326e", func := "watershed/watershedkeep.QueueOrder", spec := "queueOrder", unfollowed := true, recurses := true, plainKeys := false, apart := false }
def QueueOrderSaid : Prop := queueOrderRow.holds Try.pinned (OpenSpec.ofChange queueOrderSpec)

/-- ITS FALSE NEIGHBOUR: 'it returns false'. Refute it at one input. -/
def queueOrderWrong : ChangeSpec := { name := "queueOrder", fn := fun _ => fun
  | [d1, d2, d3, d4] => { results := [.lit (.bool false)], args := [d1, d2, d3, d4] }
  | _ => none }
def QueueOrderWrongFalsely : Prop := queueOrderRow.holds Try.pinned (OpenSpec.ofChange queueOrderWrong)

/-- 'watershedkeep.QueueApart': WHATEVER THE INPUT: true; the input reads as it did. -/
def queueApartSpec : ChangeSpec := { name := "queueApart", fn := fun _ => fun
  | [d1, d2, d3, d4] => { results := [.lit (.bool true)], args := [d1, d2, d3, d4] }
  | _ => none }
def queueApartRow : OpenClaim := { program := "ytfcjibfkhmnolaa", sum := "0b2135fe82f050dd4d555d623cc1da8943e87741d14e46f9e9ea8f47725a326e", func := "watershed/watershedkeep.QueueApart", spec := "queueApart", unfollowed := true, recurses := true, plainKeys := false, apart := false }
def QueueApartSaid : Prop := queueApartRow.holds Try.pinned (OpenSpec.ofChange queueApartSpec)

/-- ITS FALSE NEIGHBOUR: 'it returns false'. Refute it at one input. -/
def queueApartWrong : ChangeSpec := { name := "queueApart", fn := fun _ => fun
  | [d1, d2, d3, d4] => { results := [.lit (.bool false)], args := [d1, d2, d3, d4] }
  | _ => none }
def QueueApartWrongFalsely : Prop := queueApartRow.holds Try.pinned (OpenSpec.ofChange queueApartWrong)

/-- 'watershedkeep.SlotsApart': WHATEVER THE INPUT: true; the input reads as it did. -/
def slotsApartSpec : ChangeSpec := { name := "slotsApart", fn := fun _ => fun
  | [d1, d2, d3, d4] => { results := [.lit (.bool true)], args := [d1, d2, d3, d4] }
  | _ => none }
def slotsApartRow : OpenClaim := { program := "ytfcjibfkhmnolaa", sum := "0b2135fe82f050dd4d555d623cc1da8943e87741d14e46f9e9ea8f47725a326e", func := "watershed/watershedkeep.SlotsApart", spec := "slotsApart", unfollowed := true, recurses := true, plainKeys := false, apart := false }
def SlotsApartSaid : Prop := slotsApartRow.holds Try.pinned (OpenSpec.ofChange slotsApartSpec)

/-- ITS FALSE NEIGHBOUR: 'it returns false'. Refute it at one input. -/
def slotsApartWrong : ChangeSpec := { name := "slotsApart", fn := fun _ => fun
  | [d1, d2, d3, d4] => { results := [.lit (.bool false)], args := [d1, d2, d3, d4] }
  | _ => none }
def SlotsApartWrongFalsely : Prop := slotsApartRow.holds Try.pinned (OpenSpec.ofChange slotsApartWrong)

/-- 'watershedkeep.SlotsBusy': WHATEVER THE INPUT: true; the input reads as it did. -/
def slotsBusySpec : ChangeSpec := { name := "slotsBusy", fn := fun _ => fun
  | [d1, d2, d3, d4] => { results := [.lit (.bool true)], args := [d1, d2, d3, d4] }
  | _ => none }
def slotsBusyRow : OpenClaim := { program := "ytfcjibfkhmnolaa", sum := "0b2135fe82f050dd4d555d623cc1da8943e87741d14e46f9e9ea8f47725a326e", func := "watershed/watershedkeep.SlotsBusy", spec := "slotsBusy", unfollowed := true, recurses := true, plainKeys := false, apart := false }
def SlotsBusySaid : Prop := slotsBusyRow.holds Try.pinned (OpenSpec.ofChange slotsBusySpec)

/-- ITS FALSE NEIGHBOUR: 'it returns false'. Refute it at one input. -/
def slotsBusyWrong : ChangeSpec := { name := "slotsBusy", fn := fun _ => fun
  | [d1, d2, d3, d4] => { results := [.lit (.bool false)], args := [d1, d2, d3, d4] }
  | _ => none }
def SlotsBusyWrongFalsely : Prop := slotsBusyRow.holds Try.pinned (OpenSpec.ofChange slotsBusyWrong)

/-- 'watershedkeep.CrewParts': WHATEVER THE INPUT: true; the input reads as it did. -/
def crewPartsSpec : ChangeSpec := { name := "crewParts", fn := fun _ => fun
  | [d1, d2] => { results := [.lit (.bool true)], args := [d1, d2] }
  | _ => none }
def crewPartsRow : OpenClaim := { program := "ytfcjibfkhmnolaa", sum := "0b2135fe82f050dd4d555d623cc1da8943e87741d14e46f9e9ea8f47725a326e", func := "watershed/watershedkeep.CrewParts", spec := "crewParts", unfollowed := true, recurses := true, plainKeys := false, apart := false }
def CrewPartsSaid : Prop := crewPartsRow.holds Try.pinned (OpenSpec.ofChange crewPartsSpec)

/-- ITS FALSE NEIGHBOUR: 'it returns false'. Refute it at one input. -/
def crewPartsWrong : ChangeSpec := { name := "crewParts", fn := fun _ => fun
  | [d1, d2] => { results := [.lit (.bool false)], args := [d1, d2] }
  | _ => none }
def CrewPartsWrongFalsely : Prop := crewPartsRow.holds Try.pinned (OpenSpec.ofChange crewPartsWrong)

/-- 'watershedkeep.TimesOwn': WHATEVER THE INPUT: true; the input reads as it did. -/
def timesOwnSpec : ChangeSpec := { name := "timesOwn", fn := fun _ => fun
  | [d] => { results := [.lit (.bool true)], args := [d] }
  | _ => none }
def timesOwnRow : OpenClaim := { program := "ytfcjibfkhmnolaa", sum := "0b2135fe82f050dd4d555d623cc1da8943e87741d14e46f9e9ea8f47725a326e", func := "watershed/watershedkeep.TimesOwn", spec := "timesOwn", unfollowed := true, recurses := true, plainKeys := false, apart := false }
def TimesOwnSaid : Prop := timesOwnRow.holds Try.pinned (OpenSpec.ofChange timesOwnSpec)

/-- ITS FALSE NEIGHBOUR: 'it returns false'. Refute it at one input. -/
def timesOwnWrong : ChangeSpec := { name := "timesOwn", fn := fun _ => fun
  | [d] => { results := [.lit (.bool false)], args := [d] }
  | _ => none }
def TimesOwnWrongFalsely : Prop := timesOwnRow.holds Try.pinned (OpenSpec.ofChange timesOwnWrong)

/-- 'watershedkeep.DiffsOwn': WHATEVER THE INPUT: true; the input reads as it did. -/
def diffsOwnSpec : ChangeSpec := { name := "diffsOwn", fn := fun _ => fun
  | [d] => { results := [.lit (.bool true)], args := [d] }
  | _ => none }
def diffsOwnRow : OpenClaim := { program := "ytfcjibfkhmnolaa", sum := "0b2135fe82f050dd4d555d623cc1da8943e87741d14e46f9e9ea8f47725a326e", func := "watershed/watershedkeep.DiffsOwn", spec := "diffsOwn", unfollowed := true, recurses := true, plainKeys := false, apart := false }
def DiffsOwnSaid : Prop := diffsOwnRow.holds Try.pinned (OpenSpec.ofChange diffsOwnSpec)

/-- ITS FALSE NEIGHBOUR: 'it returns false'. Refute it at one input. -/
def diffsOwnWrong : ChangeSpec := { name := "diffsOwn", fn := fun _ => fun
  | [d] => { results := [.lit (.bool false)], args := [d] }
  | _ => none }
def DiffsOwnWrongFalsely : Prop := diffsOwnRow.holds Try.pinned (OpenSpec.ofChange diffsOwnWrong)

/-- 'watershedkeep.OpsBrackets': WHATEVER THE INPUT: true; the input reads as it did. -/
def opsBracketsSpec : ChangeSpec := { name := "opsBrackets", fn := fun _ => fun
  | [d1, d2, d3] => { results := [.lit (.bool true)], args := [d1, d2, d3] }
  | _ => none }
def opsBracketsRow : OpenClaim := { program := "ytfcjibfkhmnolaa", sum := "0b2135fe82f050dd4d555d623cc1da8943e87741d14e46f9e9ea8f47725a326e", func := "watershed/watershedkeep.OpsBrackets", spec := "opsBrackets", unfollowed := true, recurses := true, plainKeys := false, apart := false }
def OpsBracketsSaid : Prop := opsBracketsRow.holds Try.pinned (OpenSpec.ofChange opsBracketsSpec)

/-- ITS FALSE NEIGHBOUR: 'it returns false'. Refute it at one input. -/
def opsBracketsWrong : ChangeSpec := { name := "opsBrackets", fn := fun _ => fun
  | [d1, d2, d3] => { results := [.lit (.bool false)], args := [d1, d2, d3] }
  | _ => none }
def OpsBracketsWrongFalsely : Prop := opsBracketsRow.holds Try.pinned (OpenSpec.ofChange opsBracketsWrong)

/-- 'watershedkeep.OpsBilinear': WHATEVER THE INPUT: true; the input reads as it did. -/
def opsBilinearSpec : ChangeSpec := { name := "opsBilinear", fn := fun _ => fun
  | [d1, d2, d3, d4, d5] => { results := [.lit (.bool true)], args := [d1, d2, d3, d4, d5] }
  | _ => none }
def opsBilinearRow : OpenClaim := { program := "ytfcjibfkhmnolaa", sum := "0b2135fe82f050dd4d555d623cc1da8943e87741d14e46f9e9ea8f47725a326e", func := "watershed/watershedkeep.OpsBilinear", spec := "opsBilinear", unfollowed := true, recurses := true, plainKeys := false, apart := false }
def OpsBilinearSaid : Prop := opsBilinearRow.holds Try.pinned (OpenSpec.ofChange opsBilinearSpec)

/-- ITS FALSE NEIGHBOUR: 'it returns false'. Refute it at one input. -/
def opsBilinearWrong : ChangeSpec := { name := "opsBilinear", fn := fun _ => fun
  | [d1, d2, d3, d4, d5] => { results := [.lit (.bool false)], args := [d1, d2, d3, d4, d5] }
  | _ => none }
def OpsBilinearWrongFalsely : Prop := opsBilinearRow.holds Try.pinned (OpenSpec.ofChange opsBilinearWrong)

/-- 'watershedkeep.OpsSieves': WHATEVER THE INPUT: true; the input reads as it did. -/
def opsSievesSpec : ChangeSpec := { name := "opsSieves", fn := fun _ => fun
  | [d1, d2, d3, d4, d5, d6] => { results := [.lit (.bool true)], args := [d1, d2, d3, d4, d5, d6] }
  | _ => none }
def opsSievesRow : OpenClaim := { program := "ytfcjibfkhmnolaa", sum := "0b2135fe82f050dd4d555d623cc1da8943e87741d14e46f9e9ea8f47725a326e", func := "watershed/watershedkeep.OpsSieves", spec := "opsSieves", unfollowed := true, recurses := true, plainKeys := false, apart := false }
def OpsSievesSaid : Prop := opsSievesRow.holds Try.pinned (OpenSpec.ofChange opsSievesSpec)

/-- ITS FALSE NEIGHBOUR: 'it returns false'. Refute it at one input. -/
def opsSievesWrong : ChangeSpec := { name := "opsSieves", fn := fun _ => fun
  | [d1, d2, d3, d4, d5, d6] => { results := [.lit (.bool false)], args := [d1, d2, d3, d4, d5, d6] }
  | _ => none }
def OpsSievesWrongFalsely : Prop := opsSievesRow.holds Try.pinned (OpenSpec.ofChange opsSievesWrong)

/-- 'watershedkeep.LoopKleene': WHATEVER THE INPUT: true; the input reads as it did. -/
def loopKleeneSpec : ChangeSpec := { name := "loopKleene", fn := fun _ => fun
  | [d1, d2, d3] => { results := [.lit (.bool true)], args := [d1, d2, d3] }
  | _ => none }
def loopKleeneRow : OpenClaim := { program := "ytfcjibfkhmnolaa", sum := "0b2135fe82f050dd4d555d623cc1da8943e87741d14e46f9e9ea8f47725a326e", func := "watershed/watershedkeep.LoopKleene", spec := "loopKleene", inPlace := ["maps.clone"], unfollowed := true, recurses := true, plainKeys := false, apart := false }
def LoopKleeneSaid : Prop := loopKleeneRow.holds Try.pinned (OpenSpec.ofChange loopKleeneSpec)

/-- ITS FALSE NEIGHBOUR: 'it returns false'. Refute it at one input. -/
def loopKleeneWrong : ChangeSpec := { name := "loopKleene", fn := fun _ => fun
  | [d1, d2, d3] => { results := [.lit (.bool false)], args := [d1, d2, d3] }
  | _ => none }
def LoopKleeneWrongFalsely : Prop := loopKleeneRow.holds Try.pinned (OpenSpec.ofChange loopKleeneWrong)

/-- 'watershedkeep.LoopJoins': WHATEVER THE INPUT: true; the input reads as it did. -/
def loopJoinsSpec : ChangeSpec := { name := "loopJoins", fn := fun _ => fun
  | [d1, d2, d3] => { results := [.lit (.bool true)], args := [d1, d2, d3] }
  | _ => none }
def loopJoinsRow : OpenClaim := { program := "ytfcjibfkhmnolaa", sum := "0b2135fe82f050dd4d555d623cc1da8943e87741d14e46f9e9ea8f47725a326e", func := "watershed/watershedkeep.LoopJoins", spec := "loopJoins", inPlace := ["maps.clone"], unfollowed := true, recurses := true, plainKeys := false, apart := false }
def LoopJoinsSaid : Prop := loopJoinsRow.holds Try.pinned (OpenSpec.ofChange loopJoinsSpec)

/-- ITS FALSE NEIGHBOUR: 'it returns false'. Refute it at one input. -/
def loopJoinsWrong : ChangeSpec := { name := "loopJoins", fn := fun _ => fun
  | [d1, d2, d3] => { results := [.lit (.bool false)], args := [d1, d2, d3] }
  | _ => none }
def LoopJoinsWrongFalsely : Prop := loopJoinsRow.holds Try.pinned (OpenSpec.ofChange loopJoinsWrong)

/- THE SECOND FORM. 'bulk': how many values and letters a reading holds, each counted each time it is reached (what is shared counts as often as it is met; a slice's spare places count too). A statement '..UptoSaid' is the law's where the arguments, and the package variables that the reading takes, are together of bulk at most 1048576: NARROWER than '..Said'. Prove '..Said' where nothing that the law and all that it calls make is longer than what came in: it says more and counts as full. Else prove '..UptoSaid'. A law counts once. -/
mutual
def uptoBulk {H : Type} : DataW H → Nat
  | .lit (.string bytes) => bytes.length + 1
  | .lit _ => 1
  | .nil => 1
  | .ptr d => uptoBulk d + 1
  | .slice elems spare => uptoBulkAll elems + uptoBulkAll spare + 1
  | .agg parts => uptoBulkAll parts + 1
  | .iface _ d => uptoBulk d + 1
  | .map entries => uptoBulkEntries entries + 1
  | .held _ => 1
def uptoBulkAll {H : Type} : List (DataW H) → Nat
  | [] => 0
  | d :: r => uptoBulk d + uptoBulkAll r
def uptoBulkEntries {H : Type} : List (Lit × DataW H) → Nat
  | [] => 0
  | x :: r => uptoBulkEntry x + uptoBulkEntries r
def uptoBulkEntry {H : Type} : Lit × DataW H → Nat
  | (.string bytes, d) => bytes.length + uptoBulk d + 1
  | (_, d) => uptoBulk d + 1
 end
def uptoSmall : (H : Type) → List (DataW H) → Bool := fun _ ds => decide (uptoBulkAll ds ≤ 1048576)
def OpenSpec.upto (s : _root_.Go.ChangeSpec) : _root_.Go.OpenSpec := { _root_.Go.OpenSpec.ofChange s with cond := some uptoSmall }

/-- 'watershedkeep.QueueOrder', WHERE WHAT IT READS IS OF BULK AT MOST 1048576: true; the input reads as it did. -/
def queueOrderUptoRow : OpenClaim := { program := "ytfcjibfkhmnolaa", sum := "0b2135fe82f050dd4d555d623cc1da8943e87741d14e46f9e9ea8f47725a326e", func := "watershed/watershedkeep.QueueOrder", spec := "queueOrder", unfollowed := true, recurses := true, plainKeys := false, apart := false, narrowed := true }
def QueueOrderUptoSaid : Prop := queueOrderUptoRow.holds Try.pinned (OpenSpec.upto queueOrderSpec)

/-- 'watershedkeep.QueueApart', WHERE WHAT IT READS IS OF BULK AT MOST 1048576: true; the input reads as it did. -/
def queueApartUptoRow : OpenClaim := { program := "ytfcjibfkhmnolaa", sum := "0b2135fe82f050dd4d555d623cc1da8943e87741d14e46f9e9ea8f47725a326e", func := "watershed/watershedkeep.QueueApart", spec := "queueApart", unfollowed := true, recurses := true, plainKeys := false, apart := false, narrowed := true }
def QueueApartUptoSaid : Prop := queueApartUptoRow.holds Try.pinned (OpenSpec.upto queueApartSpec)

/-- 'watershedkeep.SlotsApart', WHERE WHAT IT READS IS OF BULK AT MOST 1048576: true; the input reads as it did. -/
def slotsApartUptoRow : OpenClaim := { program := "ytfcjibfkhmnolaa", sum := "0b2135fe82f050dd4d555d623cc1da8943e87741d14e46f9e9ea8f47725a326e", func := "watershed/watershedkeep.SlotsApart", spec := "slotsApart", unfollowed := true, recurses := true, plainKeys := false, apart := false, narrowed := true }
def SlotsApartUptoSaid : Prop := slotsApartUptoRow.holds Try.pinned (OpenSpec.upto slotsApartSpec)

/-- 'watershedkeep.SlotsBusy', WHERE WHAT IT READS IS OF BULK AT MOST 1048576: true; the input reads as it did. -/
def slotsBusyUptoRow : OpenClaim := { program := "ytfcjibfkhmnolaa", sum := "0b2135fe82f050dd4d555d623cc1da8943e87741d14e46f9e9ea8f47725a326e", func := "watershed/watershedkeep.SlotsBusy", spec := "slotsBusy", unfollowed := true, recurses := true, plainKeys := false, apart := false, narrowed := true }
def SlotsBusyUptoSaid : Prop := slotsBusyUptoRow.holds Try.pinned (OpenSpec.upto slotsBusySpec)

/-- 'watershedkeep.CrewParts', WHERE WHAT IT READS IS OF BULK AT MOST 1048576: true; the input reads as it did. -/
def crewPartsUptoRow : OpenClaim := { program := "ytfcjibfkhmnolaa", sum := "0b2135fe82f050dd4d555d623cc1da8943e87741d14e46f9e9ea8f47725a326e", func := "watershed/watershedkeep.CrewParts", spec := "crewParts", unfollowed := true, recurses := true, plainKeys := false, apart := false, narrowed := true }
def CrewPartsUptoSaid : Prop := crewPartsUptoRow.holds Try.pinned (OpenSpec.upto crewPartsSpec)

/-- 'watershedkeep.TimesOwn', WHERE WHAT IT READS IS OF BULK AT MOST 1048576: true; the input reads as it did. -/
def timesOwnUptoRow : OpenClaim := { program := "ytfcjibfkhmnolaa", sum := "0b2135fe82f050dd4d555d623cc1da8943e87741d14e46f9e9ea8f47725a326e", func := "watershed/watershedkeep.TimesOwn", spec := "timesOwn", unfollowed := true, recurses := true, plainKeys := false, apart := false, narrowed := true }
def TimesOwnUptoSaid : Prop := timesOwnUptoRow.holds Try.pinned (OpenSpec.upto timesOwnSpec)

/-- 'watershedkeep.DiffsOwn', WHERE WHAT IT READS IS OF BULK AT MOST 1048576: true; the input reads as it did. -/
def diffsOwnUptoRow : OpenClaim := { program := "ytfcjibfkhmnolaa", sum := "0b2135fe82f050dd4d555d623cc1da8943e87741d14e46f9e9ea8f47725a326e", func := "watershed/watershedkeep.DiffsOwn", spec := "diffsOwn", unfollowed := true, recurses := true, plainKeys := false, apart := false, narrowed := true }
def DiffsOwnUptoSaid : Prop := diffsOwnUptoRow.holds Try.pinned (OpenSpec.upto diffsOwnSpec)

/-- 'watershedkeep.OpsBrackets', WHERE WHAT IT READS IS OF BULK AT MOST 1048576: true; the input reads as it did. -/
def opsBracketsUptoRow : OpenClaim := { program := "ytfcjibfkhmnolaa", sum := "0b2135fe82f050dd4d555d623cc1da8943e87741d14e46f9e9ea8f47725a326e", func := "watershed/watershedkeep.OpsBrackets", spec := "opsBrackets", unfollowed := true, recurses := true, plainKeys := false, apart := false, narrowed := true }
def OpsBracketsUptoSaid : Prop := opsBracketsUptoRow.holds Try.pinned (OpenSpec.upto opsBracketsSpec)

/-- 'watershedkeep.OpsBilinear', WHERE WHAT IT READS IS OF BULK AT MOST 1048576: true; the input reads as it did. -/
def opsBilinearUptoRow : OpenClaim := { program := "ytfcjibfkhmnolaa", sum := "0b2135fe82f050dd4d555d623cc1da8943e87741d14e46f9e9ea8f47725a326e", func := "watershed/watershedkeep.OpsBilinear", spec := "opsBilinear", unfollowed := true, recurses := true, plainKeys := false, apart := false, narrowed := true }
def OpsBilinearUptoSaid : Prop := opsBilinearUptoRow.holds Try.pinned (OpenSpec.upto opsBilinearSpec)

/-- 'watershedkeep.OpsSieves', WHERE WHAT IT READS IS OF BULK AT MOST 1048576: true; the input reads as it did. -/
def opsSievesUptoRow : OpenClaim := { program := "ytfcjibfkhmnolaa", sum := "0b2135fe82f050dd4d555d623cc1da8943e87741d14e46f9e9ea8f47725a326e", func := "watershed/watershedkeep.OpsSieves", spec := "opsSieves", unfollowed := true, recurses := true, plainKeys := false, apart := false, narrowed := true }
def OpsSievesUptoSaid : Prop := opsSievesUptoRow.holds Try.pinned (OpenSpec.upto opsSievesSpec)

/-- 'watershedkeep.LoopKleene', WHERE WHAT IT READS IS OF BULK AT MOST 1048576: true; the input reads as it did. -/
def loopKleeneUptoRow : OpenClaim := { program := "ytfcjibfkhmnolaa", sum := "0b2135fe82f050dd4d555d623cc1da8943e87741d14e46f9e9ea8f47725a326e", func := "watershed/watershedkeep.LoopKleene", spec := "loopKleene", inPlace := ["maps.clone"], unfollowed := true, recurses := true, plainKeys := false, apart := false, narrowed := true }
def LoopKleeneUptoSaid : Prop := loopKleeneUptoRow.holds Try.pinned (OpenSpec.upto loopKleeneSpec)

/-- 'watershedkeep.LoopJoins', WHERE WHAT IT READS IS OF BULK AT MOST 1048576: true; the input reads as it did. -/
def loopJoinsUptoRow : OpenClaim := { program := "ytfcjibfkhmnolaa", sum := "0b2135fe82f050dd4d555d623cc1da8943e87741d14e46f9e9ea8f47725a326e", func := "watershed/watershedkeep.LoopJoins", spec := "loopJoins", inPlace := ["maps.clone"], unfollowed := true, recurses := true, plainKeys := false, apart := false, narrowed := true }
def LoopJoinsUptoSaid : Prop := loopJoinsUptoRow.holds Try.pinned (OpenSpec.upto loopJoinsSpec)

end Rows
end Go.Proofs.Ytfcjibfkhmnolaa
