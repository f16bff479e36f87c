/-
  No cell of these rows narrows 'for every input' (looked for: loops, veiled, ifaces, maps, wideKeys, modest, calm, conditions, laid).
  DERIVED. THE GIVEN ROWS OF THIS SEAT. 8 by the template 'for every input the law returns true; each argument reads behind the call as it read before'; 0 by the template 'total and deterministic' (their statements: YtopjalcimclaaaaTotals.lean).
  GIVEN WITH THE SEED: the statements are not yours to turn. If you find one false, say at which input.
  Laid BY PROGRAM, IN A SANDBOX (cutbox-rows.mjs): the forced cells as the released guide's own fill.sh prints them over the translation c90ea454831acd05… (all of the seat's roots in one cut). By AI agents, Wed Nov 11 2026. No macro, syntax, notation, axiom, sorry.
-/
import Derived.Test.YtopjalcimclaaaaChecked
import GoSem.Claim
import GoSem.ClaimJoined
import GoSem.ClaimMapViews
import Derived.JoinedTies
import Derived.KernelRfl
namespace Go.Proofs.Ytopjalcimclaaaa
/- THE CELL 'sum', in the pinned program and in every row, IS THE sha256 OF THE DUMP (.gsa) THAT YtopjalcimclaaaaProg.lean LOADS. Nothing in Lean hashes anything: it is a label: what it is worth is what the hold of that sum in a sandbox is worth. -/
noncomputable def Try.pinned : Pinned := { name := "ytopjalcimclaaaa", sum := "c90ea454831acd05ca82ca5a5a0fd6863f510a2ee7eda6f1c303fb35f29495ba", checked := Try.checked }
namespace Rows
def none {H : Type} : Left H := { results := [], args := [] }

/-- 'watershedkeep.QueueOrder': WHATEVER THE INPUT: true; the input reads as it did. -/
def queueOrderSpec : ChangeSpec := { name := "queueOrder", fn := fun _ => fun
  | [d1, d2, d3, d4] => { results := [.lit (.bool true)], args := [d1, d2, d3, d4] }
  | _ => none }
def queueOrderRow : OpenClaim := { program := "ytopjalcimclaaaa", sum := "c90ea454831acd05ca82ca5a5a0fd6863f510a2ee7eda6f1c303fb35f29495ba", func := "watershed/watershedkeep.QueueOrder", spec := "queueOrder", unfollowed := true, recurses := true, plainKeys := false, apart := false }
def QueueOrderSaid : Prop := queueOrderRow.holds Try.pinned (OpenSpec.ofChange queueOrderSpec)

/-- ITS FALSE NEIGHBOUR: 'it returns false'. Refute it at one input. -/
def queueOrderWrong : ChangeSpec := { name := "queueOrder", fn := fun _ => fun
  | [d1, d2, d3, d4] => { results := [.lit (.bool false)], args := [d1, d2, d3, d4] }
  | _ => none }
def QueueOrderWrongFalsely : Prop := queueOrderRow.holds Try.pinned (OpenSpec.ofChange queueOrderWrong)

/-- 'watershedkeep.QueueApart': WHATEVER THE INPUT: true; the input reads as it did. -/
def queueApartSpec : ChangeSpec := { name := "queueApart", fn := fun _ => fun
  | [d1, d2, d3, d4] => { results := [.lit (.bool true)], args := [d1, d2, d3, d4] }
  | _ => none }
def queueApartRow : OpenClaim := { program := "ytopjalcimclaaaa", sum := "c90ea454831acd05ca82ca5a5a0fd6863f510a2ee7eda6f1c303fb35f29495ba", func := "watershed/watershedkeep.QueueApart", spec := "queueApart", unfollowed := true, recurses := true, plainKeys := false, apart := false }
def QueueApartSaid : Prop := queueApartRow.holds Try.pinned (OpenSpec.ofChange queueApartSpec)

/-- ITS FALSE NEIGHBOUR: 'it returns false'. Refute it at one input. -/
def queueApartWrong : ChangeSpec := { name := "queueApart", fn := fun _ => fun
  | [d1, d2, d3, d4] => { results := [.lit (.bool false)], args := [d1, d2, d3, d4] }
  | _ => none }
def QueueApartWrongFalsely : Prop := queueApartRow.holds Try.pinned (OpenSpec.ofChange queueApartWrong)

/-- 'watershedkeep.SlotsApart': WHATEVER THE INPUT: true; the input reads as it did. -/
def slotsApartSpec : ChangeSpec := { name := "slotsApart", fn := fun _ => fun
  | [d1, d2, d3, d4] => { results := [.lit (.bool true)], args := [d1, d2, d3, d4] }
  | _ => none }
def slotsApartRow : OpenClaim := { program := "ytopjalcimclaaaa", sum := "c90ea454831acd05ca82ca5a5a0fd6863f510a2ee7eda6f1c303fb35f29495ba", func := "watershed/watershedkeep.SlotsApart", spec := "slotsApart", unfollowed := true, recurses := true, plainKeys := false, apart := false }
def SlotsApartSaid : Prop := slotsApartRow.holds Try.pinned (OpenSpec.ofChange slotsApartSpec)

/-- ITS FALSE NEIGHBOUR: 'it returns false'. Refute it at one input. -/
def slotsApartWrong : ChangeSpec := { name := "slotsApart", fn := fun _ => fun
  | [d1, d2, d3, d4] => { results := [.lit (.bool false)], args := [d1, d2, d3, d4] }
  | _ => none }
def SlotsApartWrongFalsely : Prop := slotsApartRow.holds Try.pinned (OpenSpec.ofChange slotsApartWrong)

/-- 'watershedkeep.SlotsBusy': WHATEVER THE INPUT: true; the input reads as it did. -/
def slotsBusySpec : ChangeSpec := { name := "slotsBusy", fn := fun _ => fun
  | [d1, d2, d3, d4] => { results := [.lit (.bool true)], args := [d1, d2, d3, d4] }
  | _ => none }
def slotsBusyRow : OpenClaim := { program := "ytopjalcimclaaaa", sum := "c90ea454831acd05ca82ca5a5a0fd6863f510a2ee7eda6f1c303fb35f29495ba", func := "watershed/watershedkeep.SlotsBusy", spec := "slotsBusy", unfollowed := true, recurses := true, plainKeys := false, apart := false }
def SlotsBusySaid : Prop := slotsBusyRow.holds Try.pinned (OpenSpec.ofChange slotsBusySpec)

/-- ITS FALSE NEIGHBOUR: 'it returns false'. Refute it at one input. -/
def slotsBusyWrong : ChangeSpec := { name := "slotsBusy", fn := fun _ => fun
  | [d1, d2, d3, d4] => { results := [.lit (.bool false)], args := [d1, d2, d3, d4] }
  | _ => none }
def SlotsBusyWrongFalsely : Prop := slotsBusyRow.holds Try.pinned (OpenSpec.ofChange slotsBusyWrong)

/-- 'watershedkeep.TimesOwn': WHATEVER THE INPUT: true; the input reads as it did. -/
def timesOwnSpec : ChangeSpec := { name := "timesOwn", fn := fun _ => fun
  | [d] => { results := [.lit (.bool true)], args := [d] }
  | _ => none }
def timesOwnRow : OpenClaim := { program := "ytopjalcimclaaaa", sum := "c90ea454831acd05ca82ca5a5a0fd6863f510a2ee7eda6f1c303fb35f29495ba", func := "watershed/watershedkeep.TimesOwn", spec := "timesOwn", unfollowed := true, recurses := true, plainKeys := false, apart := false }
def TimesOwnSaid : Prop := timesOwnRow.holds Try.pinned (OpenSpec.ofChange timesOwnSpec)

/-- ITS FALSE NEIGHBOUR: 'it returns false'. Refute it at one input. -/
def timesOwnWrong : ChangeSpec := { name := "timesOwn", fn := fun _ => fun
  | [d] => { results := [.lit (.bool false)], args := [d] }
  | _ => none }
def TimesOwnWrongFalsely : Prop := timesOwnRow.holds Try.pinned (OpenSpec.ofChange timesOwnWrong)

/-- 'watershedkeep.DiffsOwn': WHATEVER THE INPUT: true; the input reads as it did. -/
def diffsOwnSpec : ChangeSpec := { name := "diffsOwn", fn := fun _ => fun
  | [d] => { results := [.lit (.bool true)], args := [d] }
  | _ => none }
def diffsOwnRow : OpenClaim := { program := "ytopjalcimclaaaa", sum := "c90ea454831acd05ca82ca5a5a0fd6863f510a2ee7eda6f1c303fb35f29495ba", func := "watershed/watershedkeep.DiffsOwn", spec := "diffsOwn", unfollowed := true, recurses := true, plainKeys := false, apart := false }
def DiffsOwnSaid : Prop := diffsOwnRow.holds Try.pinned (OpenSpec.ofChange diffsOwnSpec)

/-- ITS FALSE NEIGHBOUR: 'it returns false'. Refute it at one input. -/
def diffsOwnWrong : ChangeSpec := { name := "diffsOwn", fn := fun _ => fun
  | [d] => { results := [.lit (.bool false)], args := [d] }
  | _ => none }
def DiffsOwnWrongFalsely : Prop := diffsOwnRow.holds Try.pinned (OpenSpec.ofChange diffsOwnWrong)

/-- 'watershedkeep.DiffsTwice': WHATEVER THE INPUT: true; the input reads as it did. -/
def diffsTwiceSpec : ChangeSpec := { name := "diffsTwice", fn := fun _ => fun
  | [d1, d2] => { results := [.lit (.bool true)], args := [d1, d2] }
  | _ => none }
def diffsTwiceRow : OpenClaim := { program := "ytopjalcimclaaaa", sum := "c90ea454831acd05ca82ca5a5a0fd6863f510a2ee7eda6f1c303fb35f29495ba", func := "watershed/watershedkeep.DiffsTwice", spec := "diffsTwice", unfollowed := true, recurses := true, plainKeys := false, apart := false }
def DiffsTwiceSaid : Prop := diffsTwiceRow.holds Try.pinned (OpenSpec.ofChange diffsTwiceSpec)

/-- ITS FALSE NEIGHBOUR: 'it returns false'. Refute it at one input. -/
def diffsTwiceWrong : ChangeSpec := { name := "diffsTwice", fn := fun _ => fun
  | [d1, d2] => { results := [.lit (.bool false)], args := [d1, d2] }
  | _ => none }
def DiffsTwiceWrongFalsely : Prop := diffsTwiceRow.holds Try.pinned (OpenSpec.ofChange diffsTwiceWrong)

/-- 'watershedkeep.DiffsBest': WHATEVER THE INPUT: true; the input reads as it did. -/
def diffsBestSpec : ChangeSpec := { name := "diffsBest", fn := fun _ => fun
  | [d1, d2, d3] => { results := [.lit (.bool true)], args := [d1, d2, d3] }
  | _ => none }
def diffsBestRow : OpenClaim := { program := "ytopjalcimclaaaa", sum := "c90ea454831acd05ca82ca5a5a0fd6863f510a2ee7eda6f1c303fb35f29495ba", func := "watershed/watershedkeep.DiffsBest", spec := "diffsBest", unfollowed := true, recurses := true, plainKeys := false, apart := false }
def DiffsBestSaid : Prop := diffsBestRow.holds Try.pinned (OpenSpec.ofChange diffsBestSpec)

/-- ITS FALSE NEIGHBOUR: 'it returns false'. Refute it at one input. -/
def diffsBestWrong : ChangeSpec := { name := "diffsBest", fn := fun _ => fun
  | [d1, d2, d3] => { results := [.lit (.bool false)], args := [d1, d2, d3] }
  | _ => none }
def DiffsBestWrongFalsely : Prop := diffsBestRow.holds Try.pinned (OpenSpec.ofChange diffsBestWrong)

/- THE SECOND FORM. 'bulk': how many values and letters a reading holds, each counted each time it is reached (what is shared counts as often as it is met; a slice's spare places count too). A statement '..UptoSaid' is the law's where the arguments, and the package variables that the reading takes, are together of bulk at most 1048576: NARROWER than '..Said'. Prove '..Said' where nothing that the law and all that it calls make is longer than what came in: it says more and counts as full. Else prove '..UptoSaid'. A law counts once. -/
mutual
def uptoBulk {H : Type} : DataW H → Nat
  | .lit (.string bytes) => bytes.length + 1
  | .lit _ => 1
  | .nil => 1
  | .ptr d => uptoBulk d + 1
  | .slice elems spare => uptoBulkAll elems + uptoBulkAll spare + 1
  | .agg parts => uptoBulkAll parts + 1
  | .iface _ d => uptoBulk d + 1
  | .map entries => uptoBulkEntries entries + 1
  | .held _ => 1
def uptoBulkAll {H : Type} : List (DataW H) → Nat
  | [] => 0
  | d :: r => uptoBulk d + uptoBulkAll r
def uptoBulkEntries {H : Type} : List (Lit × DataW H) → Nat
  | [] => 0
  | x :: r => uptoBulkEntry x + uptoBulkEntries r
def uptoBulkEntry {H : Type} : Lit × DataW H → Nat
  | (.string bytes, d) => bytes.length + uptoBulk d + 1
  | (_, d) => uptoBulk d + 1
 end
def uptoSmall : (H : Type) → List (DataW H) → Bool := fun _ ds => decide (uptoBulkAll ds ≤ 1048576)
def OpenSpec.upto (s : _root_.Go.ChangeSpec) : _root_.Go.OpenSpec := { _root_.Go.OpenSpec.ofChange s with cond := some uptoSmall }

/-- 'watershedkeep.QueueOrder', WHERE WHAT IT READS IS OF BULK AT MOST 1048576: true; the input reads as it did. -/
def queueOrderUptoRow : OpenClaim := { program := "ytopjalcimclaaaa", sum := "c90ea454831acd05ca82ca5a5a0fd6863f510a2ee7eda6f1c303fb35f29495ba", func := "watershed/watershedkeep.QueueOrder", spec := "queueOrder", unfollowed := true, recurses := true, plainKeys := false, apart := false, narrowed := true }
def QueueOrderUptoSaid : Prop := queueOrderUptoRow.holds Try.pinned (OpenSpec.upto queueOrderSpec)

/-- 'watershedkeep.QueueApart', WHERE WHAT IT READS IS OF BULK AT MOST 1048576: true; the input reads as it did. -/
def queueApartUptoRow : OpenClaim := { program := "ytopjalcimclaaaa", sum := "c90ea454831acd05ca82ca5a5a0fd6863f510a2ee7eda6f1c303fb35f29495ba", func := "watershed/watershedkeep.QueueApart", spec := "queueApart", unfollowed := true, recurses := true, plainKeys := false, apart := false, narrowed := true }
def QueueApartUptoSaid : Prop := queueApartUptoRow.holds Try.pinned (OpenSpec.upto queueApartSpec)

/-- 'watershedkeep.SlotsApart', WHERE WHAT IT READS IS OF BULK AT MOST 1048576: true; the input reads as it did. -/
def slotsApartUptoRow : OpenClaim := { program := "ytopjalcimclaaaa", sum := "c90ea454831acd05ca82ca5a5a0fd6863f510a2ee7eda6f1c303fb35f29495ba", func := "watershed/watershedkeep.SlotsApart", spec := "slotsApart", unfollowed := true, recurses := true, plainKeys := false, apart := false, narrowed := true }
def SlotsApartUptoSaid : Prop := slotsApartUptoRow.holds Try.pinned (OpenSpec.upto slotsApartSpec)

/-- 'watershedkeep.SlotsBusy', WHERE WHAT IT READS IS OF BULK AT MOST 1048576: true; the input reads as it did. -/
def slotsBusyUptoRow : OpenClaim := { program := "ytopjalcimclaaaa", sum := "c90ea454831acd05ca82ca5a5a0fd6863f510a2ee7eda6f1c303fb35f29495ba", func := "watershed/watershedkeep.SlotsBusy", spec := "slotsBusy", unfollowed := true, recurses := true, plainKeys := false, apart := false, narrowed := true }
def SlotsBusyUptoSaid : Prop := slotsBusyUptoRow.holds Try.pinned (OpenSpec.upto slotsBusySpec)

/-- 'watershedkeep.TimesOwn', WHERE WHAT IT READS IS OF BULK AT MOST 1048576: true; the input reads as it did. -/
def timesOwnUptoRow : OpenClaim := { program := "ytopjalcimclaaaa", sum := "c90ea454831acd05ca82ca5a5a0fd6863f510a2ee7eda6f1c303fb35f29495ba", func := "watershed/watershedkeep.TimesOwn", spec := "timesOwn", unfollowed := true, recurses := true, plainKeys := false, apart := false, narrowed := true }
def TimesOwnUptoSaid : Prop := timesOwnUptoRow.holds Try.pinned (OpenSpec.upto timesOwnSpec)

/-- 'watershedkeep.DiffsOwn', WHERE WHAT IT READS IS OF BULK AT MOST 1048576: true; the input reads as it did. -/
def diffsOwnUptoRow : OpenClaim := { program := "ytopjalcimclaaaa", sum := "c90ea454831acd05ca82ca5a5a0fd6863f510a2ee7eda6f1c303fb35f29495ba", func := "watershed/watershedkeep.DiffsOwn", spec := "diffsOwn", unfollowed := true, recurses := true, plainKeys := false, apart := false, narrowed := true }
def DiffsOwnUptoSaid : Prop := diffsOwnUptoRow.holds Try.pinned (OpenSpec.upto diffsOwnSpec)

/-- 'watershedkeep.DiffsTwice', WHERE WHAT IT READS IS OF BULK AT MOST 1048576: true; the input reads as it did. -/
def diffsTwiceUptoRow : OpenClaim := { program := "ytopjalcimclaaaa", sum := "c90ea454831acd05ca82ca5a5a0fd6863f510a2ee7eda6f1c303fb35f29495ba", func := "watershed/watershedkeep.DiffsTwice", spec := "diffsTwice", unfollowed := true, recurses := true, plainKeys := false, apart := false, narrowed := true }
def DiffsTwiceUptoSaid : Prop := diffsTwiceUptoRow.holds Try.pinned (OpenSpec.upto diffsTwiceSpec)

/-- 'watershedkeep.DiffsBest', WHERE WHAT IT READS IS OF BULK AT MOST 1048576: true; the input reads as it did. -/
def diffsBestUptoRow : OpenClaim := { program := "ytopjalcimclaaaa", sum := "c90ea454831acd05ca82ca5a5a0fd6863f510a2ee7eda6f1c303fb35f29495ba", func := "watershed/watershedkeep.DiffsBest", spec := "diffsBest", unfollowed := true, recurses := true, plainKeys := false, apart := false, narrowed := true }
def DiffsBestUptoSaid : Prop := diffsBestUptoRow.holds Try.pinned (OpenSpec.upto diffsBestSpec)

end Rows
end Go.Proofs.Ytopjalcimclaaaa
