/-
  No cell of these rows narrows 'for every input' (looked for: loops, veiled, ifaces, maps, wideKeys, modest, calm, conditions, laid).
  DERIVED. THE GIVEN ROWS OF THIS SEAT. 7 by the template 'for every input the law returns true; each argument reads behind the call as it read before'; 0 by the template 'total and deterministic' (their statements: YtcjecibocjbdmaaTotals.lean).
  GIVEN WITH THE SEED: the statements are not yours to turn. If you find one false, say at which input.
  Laid BY PROGRAM, IN A SANDBOX (cutbox-rows.mjs): the forced cells as the released guide's own fill.sh prints them over the translation dcb381be032fa529… (all of the seat's roots in one cut). By AI agents, Wed Nov 11 2026. No macro, syntax, notation, axiom, sorry.
-/
import Derived.Test.YtcjecibocjbdmaaChecked
import GoSem.Claim
import GoSem.ClaimJoined
import GoSem.ClaimMapViews
import Derived.JoinedTies
import Derived.KernelRfl
namespace Go.Proofs.Ytcjecibocjbdmaa
/- THE CELL 'sum', in the pinned program and in every row, IS THE sha256 OF THE DUMP (.gsa) THAT YtcjecibocjbdmaaProg.lean LOADS. Nothing in Lean hashes anything: it is a label: what it is worth is what the hold of that sum in a sandbox is worth. -/
noncomputable def Try.pinned : Pinned := { name := "ytcjecibocjbdmaa", sum := "dcb381be032fa52995b15d916453c7d0adcab576461dd264654bccd56481b973", checked := Try.checked }
namespace Rows
def none {H : Type} : Left H := { results := [], args := [] }

/-- 'watershedkeep.QueueOrder': WHATEVER THE INPUT: true; the input reads as it did. -/
def queueOrderSpec : ChangeSpec := { name := "queueOrder", fn := fun _ => fun
  | [d1, d2, d3, d4] => { results := [.lit (.bool true)], args := [d1, d2, d3, d4] }
  | _ => none }
def queueOrderRow : OpenClaim := { program := "ytcjecibocjbdmaa", sum := "dcb381be032fa52995b15d916453c7d0adcab576461dd264654bccd56481b973", func := "watershed/watershedkeep.QueueOrder", spec := "queueOrder", unfollowed := true, recurses := true, plainKeys := false, apart := false }
def QueueOrderSaid : Prop := queueOrderRow.holds Try.pinned (OpenSpec.ofChange queueOrderSpec)

/-- ITS FALSE NEIGHBOUR: 'it returns false'. Refute it at one input. -/
def queueOrderWrong : ChangeSpec := { name := "queueOrder", fn := fun _ => fun
  | [d1, d2, d3, d4] => { results := [.lit (.bool false)], args := [d1, d2, d3, d4] }
  | _ => none }
def QueueOrderWrongFalsely : Prop := queueOrderRow.holds Try.pinned (OpenSpec.ofChange queueOrderWrong)

/-- 'watershedkeep.QueueApart': WHATEVER THE INPUT: true; the input reads as it did. -/
def queueApartSpec : ChangeSpec := { name := "queueApart", fn := fun _ => fun
  | [d1, d2, d3, d4] => { results := [.lit (.bool true)], args := [d1, d2, d3, d4] }
  | _ => none }
def queueApartRow : OpenClaim := { program := "ytcjecibocjbdmaa", sum := "dcb381be032fa52995b15d916453c7d0adcab576461dd264654bccd56481b973", func := "watershed/watershedkeep.QueueApart", spec := "queueApart", unfollowed := true, recurses := true, plainKeys := false, apart := false }
def QueueApartSaid : Prop := queueApartRow.holds Try.pinned (OpenSpec.ofChange queueApartSpec)

/-- ITS FALSE NEIGHBOUR: 'it returns false'. Refute it at one input. -/
def queueApartWrong : ChangeSpec := { name := "queueApart", fn := fun _ => fun
  | [d1, d2, d3, d4] => { results := [.lit (.bool false)], args := [d1, d2, d3, d4] }
  | _ => none }
def QueueApartWrongFalsely : Prop := queueApartRow.holds Try.pinned (OpenSpec.ofChange queueApartWrong)

/-- 'watershedkeep.CrewParts': WHATEVER THE INPUT: true; the input reads as it did. -/
def crewPartsSpec : ChangeSpec := { name := "crewParts", fn := fun _ => fun
  | [d1, d2] => { results := [.lit (.bool true)], args := [d1, d2] }
  | _ => none }
def crewPartsRow : OpenClaim := { program := "ytcjecibocjbdmaa", sum := "dcb381be032fa52995b15d916453c7d0adcab576461dd264654bccd56481b973", func := "watershed/watershedkeep.CrewParts", spec := "crewParts", unfollowed := true, recurses := true, plainKeys := false, apart := false }
def CrewPartsSaid : Prop := crewPartsRow.holds Try.pinned (OpenSpec.ofChange crewPartsSpec)

/-- ITS FALSE NEIGHBOUR: 'it returns false'. Refute it at one input. -/
def crewPartsWrong : ChangeSpec := { name := "crewParts", fn := fun _ => fun
  | [d1, d2] => { results := [.lit (.bool false)], args := [d1, d2] }
  | _ => none }
def CrewPartsWrongFalsely : Prop := crewPartsRow.holds Try.pinned (OpenSpec.ofChange crewPartsWrong)

/-- 'watershedkeep.TimesOwn': WHATEVER THE INPUT: true; the input reads as it did. -/
def timesOwnSpec : ChangeSpec := { name := "timesOwn", fn := fun _ => fun
  | [d] => { results := [.lit (.bool true)], args := [d] }
  | _ => none }
def timesOwnRow : OpenClaim := { program := "ytcjecibocjbdmaa", sum := "dcb381be032fa52995b15d916453c7d0adcab576461dd264654bccd56481b973", func := "watershed/watershedkeep.TimesOwn", spec := "timesOwn", unfollowed := true, recurses := true, plainKeys := false, apart := false }
def TimesOwnSaid : Prop := timesOwnRow.holds Try.pinned (OpenSpec.ofChange timesOwnSpec)

/-- ITS FALSE NEIGHBOUR: 'it returns false'. Refute it at one input. -/
def timesOwnWrong : ChangeSpec := { name := "timesOwn", fn := fun _ => fun
  | [d] => { results := [.lit (.bool false)], args := [d] }
  | _ => none }
def TimesOwnWrongFalsely : Prop := timesOwnRow.holds Try.pinned (OpenSpec.ofChange timesOwnWrong)

/-- 'watershedkeep.DiffsOwn': WHATEVER THE INPUT: true; the input reads as it did. -/
def diffsOwnSpec : ChangeSpec := { name := "diffsOwn", fn := fun _ => fun
  | [d] => { results := [.lit (.bool true)], args := [d] }
  | _ => none }
def diffsOwnRow : OpenClaim := { program := "ytcjecibocjbdmaa", sum := "dcb381be032fa52995b15d916453c7d0adcab576461dd264654bccd56481b973", func := "watershed/watershedkeep.DiffsOwn", spec := "diffsOwn", unfollowed := true, recurses := true, plainKeys := false, apart := false }
def DiffsOwnSaid : Prop := diffsOwnRow.holds Try.pinned (OpenSpec.ofChange diffsOwnSpec)

/-- ITS FALSE NEIGHBOUR: 'it returns false'. Refute it at one input. -/
def diffsOwnWrong : ChangeSpec := { name := "diffsOwn", fn := fun _ => fun
  | [d] => { results := [.lit (.bool false)], args := [d] }
  | _ => none }
def DiffsOwnWrongFalsely : Prop := diffsOwnRow.holds Try.pinned (OpenSpec.ofChange diffsOwnWrong)

/-- 'watershedkeep.WireBack': WHATEVER THE INPUT: true; the input reads as it did. -/
def wireBackSpec : ChangeSpec := { name := "wireBack", fn := fun _ => fun
  | [d] => { results := [.lit (.bool true)], args := [d] }
  | _ => none }
def wireBackRow : OpenClaim := { program := "ytcjecibocjbdmaa", sum := "dcb381be032fa52995b15d916453c7d0adcab576461dd264654bccd56481b973", func := "watershed/watershedkeep.WireBack", spec := "wireBack", unfollowed := true, recurses := true, plainKeys := false, apart := false }
def WireBackSaid : Prop := wireBackRow.holds Try.pinned (OpenSpec.ofChange wireBackSpec)

/-- ITS FALSE NEIGHBOUR: 'it returns false'. Refute it at one input. -/
def wireBackWrong : ChangeSpec := { name := "wireBack", fn := fun _ => fun
  | [d] => { results := [.lit (.bool false)], args := [d] }
  | _ => none }
def WireBackWrongFalsely : Prop := wireBackRow.holds Try.pinned (OpenSpec.ofChange wireBackWrong)

/-- 'watershedkeep.WireOnly': WHATEVER THE INPUT: true; the input reads as it did. -/
def wireOnlySpec : ChangeSpec := { name := "wireOnly", fn := fun _ => fun
  | [d] => { results := [.lit (.bool true)], args := [d] }
  | _ => none }
def wireOnlyRow : OpenClaim := { program := "ytcjecibocjbdmaa", sum := "dcb381be032fa52995b15d916453c7d0adcab576461dd264654bccd56481b973", func := "watershed/watershedkeep.WireOnly", spec := "wireOnly", unfollowed := true, recurses := true, plainKeys := false, apart := false }
def WireOnlySaid : Prop := wireOnlyRow.holds Try.pinned (OpenSpec.ofChange wireOnlySpec)

/-- ITS FALSE NEIGHBOUR: 'it returns false'. Refute it at one input. -/
def wireOnlyWrong : ChangeSpec := { name := "wireOnly", fn := fun _ => fun
  | [d] => { results := [.lit (.bool false)], args := [d] }
  | _ => none }
def WireOnlyWrongFalsely : Prop := wireOnlyRow.holds Try.pinned (OpenSpec.ofChange wireOnlyWrong)

/- THE SECOND FORM. 'bulk': how many values and letters a reading holds, each counted each time it is reached (what is shared counts as often as it is met; a slice's spare places count too). A statement '..UptoSaid' is the law's where the arguments, and the package variables that the reading takes, are together of bulk at most 1048576: NARROWER than '..Said'. Prove '..Said' where nothing that the law and all that it calls make is longer than what came in: it says more and counts as full. Else prove '..UptoSaid'. A law counts once. -/
mutual
def uptoBulk {H : Type} : DataW H → Nat
  | .lit (.string bytes) => bytes.length + 1
  | .lit _ => 1
  | .nil => 1
  | .ptr d => uptoBulk d + 1
  | .slice elems spare => uptoBulkAll elems + uptoBulkAll spare + 1
  | .agg parts => uptoBulkAll parts + 1
  | .iface _ d => uptoBulk d + 1
  | .map entries => uptoBulkEntries entries + 1
  | .held _ => 1
def uptoBulkAll {H : Type} : List (DataW H) → Nat
  | [] => 0
  | d :: r => uptoBulk d + uptoBulkAll r
def uptoBulkEntries {H : Type} : List (Lit × DataW H) → Nat
  | [] => 0
  | x :: r => uptoBulkEntry x + uptoBulkEntries r
def uptoBulkEntry {H : Type} : Lit × DataW H → Nat
  | (.string bytes, d) => bytes.length + uptoBulk d + 1
  | (_, d) => uptoBulk d + 1
 end
def uptoSmall : (H : Type) → List (DataW H) → Bool := fun _ ds => decide (uptoBulkAll ds ≤ 1048576)
def OpenSpec.upto (s : _root_.Go.ChangeSpec) : _root_.Go.OpenSpec := { _root_.Go.OpenSpec.ofChange s with cond := some uptoSmall }

/-- 'watershedkeep.QueueOrder', WHERE WHAT IT READS IS OF BULK AT MOST 1048576: true; the input reads as it did. -/
def queueOrderUptoRow : OpenClaim := { program := "ytcjecibocjbdmaa", sum := "dcb381be032fa52995b15d916453c7d0adcab576461dd264654bccd56481b973", func := "watershed/watershedkeep.QueueOrder", spec := "queueOrder", unfollowed := true, recurses := true, plainKeys := false, apart := false, narrowed := true }
def QueueOrderUptoSaid : Prop := queueOrderUptoRow.holds Try.pinned (OpenSpec.upto queueOrderSpec)

/-- 'watershedkeep.QueueApart', WHERE WHAT IT READS IS OF BULK AT MOST 1048576: true; the input reads as it did. -/
def queueApartUptoRow : OpenClaim := { program := "ytcjecibocjbdmaa", sum := "dcb381be032fa52995b15d916453c7d0adcab576461dd264654bccd56481b973", func := "watershed/watershedkeep.QueueApart", spec := "queueApart", unfollowed := true, recurses := true, plainKeys := false, apart := false, narrowed := true }
def QueueApartUptoSaid : Prop := queueApartUptoRow.holds Try.pinned (OpenSpec.upto queueApartSpec)

/-- 'watershedkeep.CrewParts', WHERE WHAT IT READS IS OF BULK AT MOST 1048576: true; the input reads as it did. -/
def crewPartsUptoRow : OpenClaim := { program := "ytcjecibocjbdmaa", sum := "dcb381be032fa52995b15d916453c7d0adcab576461dd264654bccd56481b973", func := "watershed/watershedkeep.CrewParts", spec := "crewParts", unfollowed := true, recurses := true, plainKeys := false, apart := false, narrowed := true }
def CrewPartsUptoSaid : Prop := crewPartsUptoRow.holds Try.pinned (OpenSpec.upto crewPartsSpec)

/-- 'watershedkeep.TimesOwn', WHERE WHAT IT READS IS OF BULK AT MOST 1048576: true; the input reads as it did. -/
def timesOwnUptoRow : OpenClaim := { program := "ytcjecibocjbdmaa", sum := "dcb381be032fa52995b15d916453c7d0adcab576461dd264654bccd56481b973", func := "watershed/watershedkeep.TimesOwn", spec := "timesOwn", unfollowed := true, recurses := true, plainKeys := false, apart := false, narrowed := true }
def TimesOwnUptoSaid : Prop := timesOwnUptoRow.holds Try.pinned (OpenSpec.upto timesOwnSpec)

/-- 'watershedkeep.DiffsOwn', WHERE WHAT IT READS IS OF BULK AT MOST 1048576: true; the input reads as it did. -/
def diffsOwnUptoRow : OpenClaim := { program := "ytcjecibocjbdmaa", sum := "dcb381be032fa52995b15d916453c7d0adcab576461dd264654bccd56481b973", func := "watershed/watershedkeep.DiffsOwn", spec := "diffsOwn", unfollowed := true, recurses := true, plainKeys := false, apart := false, narrowed := true }
def DiffsOwnUptoSaid : Prop := diffsOwnUptoRow.holds Try.pinned (OpenSpec.upto diffsOwnSpec)

/-- 'watershedkeep.WireBack', WHERE WHAT IT READS IS OF BULK AT MOST 1048576: true; the input reads as it did. -/
def wireBackUptoRow : OpenClaim := { program := "ytcjecibocjbdmaa", sum := "dcb381be032fa52995b15d916453c7d0adcab576461dd264654bccd56481b973", func := "watershed/watershedkeep.WireBack", spec := "wireBack", unfollowed := true, recurses := true, plainKeys := false, apart := false, narrowed := true }
def WireBackUptoSaid : Prop := wireBackUptoRow.holds Try.pinned (OpenSpec.upto wireBackSpec)

/-- 'watershedkeep.WireOnly', WHERE WHAT IT READS IS OF BULK AT MOST 1048576: true; the input reads as it did. -/
def wireOnlyUptoRow : OpenClaim := { program := "ytcjecibocjbdmaa", sum := "dcb381be032fa52995b15d916453c7d0adcab576461dd264654bccd56481b973", func := "watershed/watershedkeep.WireOnly", spec := "wireOnly", unfollowed := true, recurses := true, plainKeys := false, apart := false, narrowed := true }
def WireOnlyUptoSaid : Prop := wireOnlyUptoRow.holds Try.pinned (OpenSpec.upto wireOnlySpec)

end Rows
end Go.Proofs.Ytcjecibocjbdmaa
