/-
  No cell of these rows narrows 'for every input' (looked for: loops, veiled, ifaces, maps, wideKeys, modest, calm, conditions, laid).
  DERIVED. THE GIVEN ROWS OF THIS SEAT. 7 by the template 'for every input the law returns true; each argument reads behind the call as it read before'; 0 by the template 'total and deterministic' (their statements: YtnieamciihdfpaaTotals.lean).
  GIVEN WITH THE SEED: the statements are not yours to turn. If you find one false, say at which input.
  Laid BY PROGRAM, IN A SANDBOX (cutbox-rows.mjs): the forced cells as the released guide's own fill.sh prints them over the translation 0bf9080ef25e4984… (all of the seat's roots in one cut). By AI agents, Wed Nov 11 2026. No macro, syntax, notation, axiom, sorry.
-/
import Derived.Test.YtnieamciihdfpaaChecked
import GoSem.Claim
import GoSem.ClaimJoined
import GoSem.ClaimMapViews
import Derived.JoinedTies
import Derived.KernelRfl
namespace Go.Proofs.Ytnieamciihdfpaa
/- THE CELL 'sum', in the pinned program and in every row, IS THE sha256 OF THE DUMP (.gsa) THAT YtnieamciihdfpaaProg.lean LOADS. Nothing in Lean hashes anything: it is a label: what it is worth is what the hold of that sum in a sandbox is worth. -/
noncomputable def Try.pinned : Pinned := { name := "ytnieamciihdfpaa", sum := "0bf9080ef25e4984f4516087e078bcf2b5b468ac72be355ba1aa481254fa6f4e", checked := Try.checked }
namespace Rows
def none {H : Type} : Left H := { results := [], args := [] }

/-- 'watershedkeep.DiffsMobius': WHATEVER THE INPUT: true; the input reads as it did. -/
def diffsMobiusSpec : ChangeSpec := { name := "diffsMobius", fn := fun _ => fun
  | [d] => { results := [.lit (.bool true)], args := [d] }
  | _ => none }
def diffsMobiusRow : OpenClaim := { program := "ytnieamciihdfpaa", sum := "0bf9080ef25e4984f4516087e078bcf2b5b468ac72be355ba1aa481254fa6f4e", func := "watershed/watershedkeep.DiffsMobius", spec := "diffsMobius", unfollowed := true, recurses := true, plainKeys := false, apart := false }
def DiffsMobiusSaid : Prop := diffsMobiusRow.holds Try.pinned (OpenSpec.ofChange diffsMobiusSpec)

/-- ITS FALSE NEIGHBOUR: 'it returns false'. Refute it at one input. -/
def diffsMobiusWrong : ChangeSpec := { name := "diffsMobius", fn := fun _ => fun
  | [d] => { results := [.lit (.bool false)], args := [d] }
  | _ => none }
def DiffsMobiusWrongFalsely : Prop := diffsMobiusRow.holds Try.pinned (OpenSpec.ofChange diffsMobiusWrong)

/-- 'watershedkeep.DiffsCompacts': WHATEVER THE INPUT: true; the input reads as it did. -/
def diffsCompactsSpec : ChangeSpec := { name := "diffsCompacts", fn := fun _ => fun
  | [d1, d2, d3] => { results := [.lit (.bool true)], args := [d1, d2, d3] }
  | _ => none }
def diffsCompactsRow : OpenClaim := { program := "ytnieamciihdfpaa", sum := "0bf9080ef25e4984f4516087e078bcf2b5b468ac72be355ba1aa481254fa6f4e", func := "watershed/watershedkeep.DiffsCompacts", spec := "diffsCompacts", unfollowed := true, recurses := true, plainKeys := false, apart := false }
def DiffsCompactsSaid : Prop := diffsCompactsRow.holds Try.pinned (OpenSpec.ofChange diffsCompactsSpec)

/-- ITS FALSE NEIGHBOUR: 'it returns false'. Refute it at one input. -/
def diffsCompactsWrong : ChangeSpec := { name := "diffsCompacts", fn := fun _ => fun
  | [d1, d2, d3] => { results := [.lit (.bool false)], args := [d1, d2, d3] }
  | _ => none }
def DiffsCompactsWrongFalsely : Prop := diffsCompactsRow.holds Try.pinned (OpenSpec.ofChange diffsCompactsWrong)

/-- 'watershedkeep.DiffsAdds': WHATEVER THE INPUT: true; the input reads as it did. -/
def diffsAddsSpec : ChangeSpec := { name := "diffsAdds", fn := fun _ => fun
  | [d1, d2, d3] => { results := [.lit (.bool true)], args := [d1, d2, d3] }
  | _ => none }
def diffsAddsRow : OpenClaim := { program := "ytnieamciihdfpaa", sum := "0bf9080ef25e4984f4516087e078bcf2b5b468ac72be355ba1aa481254fa6f4e", func := "watershed/watershedkeep.DiffsAdds", spec := "diffsAdds", unfollowed := true, recurses := true, plainKeys := false, apart := false }
def DiffsAddsSaid : Prop := diffsAddsRow.holds Try.pinned (OpenSpec.ofChange diffsAddsSpec)

/-- ITS FALSE NEIGHBOUR: 'it returns false'. Refute it at one input. -/
def diffsAddsWrong : ChangeSpec := { name := "diffsAdds", fn := fun _ => fun
  | [d1, d2, d3] => { results := [.lit (.bool false)], args := [d1, d2, d3] }
  | _ => none }
def DiffsAddsWrongFalsely : Prop := diffsAddsRow.holds Try.pinned (OpenSpec.ofChange diffsAddsWrong)

/-- 'watershedkeep.IncrBoth': WHATEVER THE INPUT: true; the input reads as it did. -/
def incrBothSpec : ChangeSpec := { name := "incrBoth", fn := fun _ => fun
  | [d1, d2, d3, d4] => { results := [.lit (.bool true)], args := [d1, d2, d3, d4] }
  | _ => none }
def incrBothRow : OpenClaim := { program := "ytnieamciihdfpaa", sum := "0bf9080ef25e4984f4516087e078bcf2b5b468ac72be355ba1aa481254fa6f4e", func := "watershed/watershedkeep.IncrBoth", spec := "incrBoth", unfollowed := true, recurses := true, plainKeys := false, apart := false }
def IncrBothSaid : Prop := incrBothRow.holds Try.pinned (OpenSpec.ofChange incrBothSpec)

/-- ITS FALSE NEIGHBOUR: 'it returns false'. Refute it at one input. -/
def incrBothWrong : ChangeSpec := { name := "incrBoth", fn := fun _ => fun
  | [d1, d2, d3, d4] => { results := [.lit (.bool false)], args := [d1, d2, d3, d4] }
  | _ => none }
def IncrBothWrongFalsely : Prop := incrBothRow.holds Try.pinned (OpenSpec.ofChange incrBothWrong)

/-- 'watershedkeep.WireBack': WHATEVER THE INPUT: true; the input reads as it did. -/
def wireBackSpec : ChangeSpec := { name := "wireBack", fn := fun _ => fun
  | [d] => { results := [.lit (.bool true)], args := [d] }
  | _ => none }
def wireBackRow : OpenClaim := { program := "ytnieamciihdfpaa", sum := "0bf9080ef25e4984f4516087e078bcf2b5b468ac72be355ba1aa481254fa6f4e", func := "watershed/watershedkeep.WireBack", spec := "wireBack", unfollowed := true, recurses := true, plainKeys := false, apart := false }
def WireBackSaid : Prop := wireBackRow.holds Try.pinned (OpenSpec.ofChange wireBackSpec)

/-- ITS FALSE NEIGHBOUR: 'it returns false'. Refute it at one input. -/
def wireBackWrong : ChangeSpec := { name := "wireBack", fn := fun _ => fun
  | [d] => { results := [.lit (.bool false)], args := [d] }
  | _ => none }
def WireBackWrongFalsely : Prop := wireBackRow.holds Try.pinned (OpenSpec.ofChange wireBackWrong)

/-- 'watershedkeep.WireOnly': WHATEVER THE INPUT: true; the input reads as it did. -/
def wireOnlySpec : ChangeSpec := { name := "wireOnly", fn := fun _ => fun
  | [d] => { results := [.lit (.bool true)], args := [d] }
  | _ => none }
def wireOnlyRow : OpenClaim := { program := "ytnieamciihdfpaa", sum := "0bf9080ef25e4984f4516087e078bcf2b5b468ac72be355ba1aa481254fa6f4e", func := "watershed/watershedkeep.WireOnly", spec := "wireOnly", unfollowed := true, recurses := true, plainKeys := false, apart := false }
def WireOnlySaid : Prop := wireOnlyRow.holds Try.pinned (OpenSpec.ofChange wireOnlySpec)

/-- ITS FALSE NEIGHBOUR: 'it returns false'. Refute it at one input. -/
def wireOnlyWrong : ChangeSpec := { name := "wireOnly", fn := fun _ => fun
  | [d] => { results := [.lit (.bool false)], args := [d] }
  | _ => none }
def WireOnlyWrongFalsely : Prop := wireOnlyRow.holds Try.pinned (OpenSpec.ofChange wireOnlyWrong)

/-- 'watershedkeep.WireTurned': WHATEVER THE INPUT: true; the input reads as it did. -/
def wireTurnedSpec : ChangeSpec := { name := "wireTurned", fn := fun _ => fun
  | [d1, d2, d3] => { results := [.lit (.bool true)], args := [d1, d2, d3] }
  | _ => none }
def wireTurnedRow : OpenClaim := { program := "ytnieamciihdfpaa", sum := "0bf9080ef25e4984f4516087e078bcf2b5b468ac72be355ba1aa481254fa6f4e", func := "watershed/watershedkeep.WireTurned", spec := "wireTurned", unfollowed := true, recurses := true, plainKeys := false, apart := false }
def WireTurnedSaid : Prop := wireTurnedRow.holds Try.pinned (OpenSpec.ofChange wireTurnedSpec)

/-- ITS FALSE NEIGHBOUR: 'it returns false'. Refute it at one input. -/
def wireTurnedWrong : ChangeSpec := { name := "wireTurned", fn := fun _ => fun
  | [d1, d2, d3] => { results := [.lit (.bool false)], args := [d1, d2, d3] }
  | _ => none }
def WireTurnedWrongFalsely : Prop := wireTurnedRow.holds Try.pinned (OpenSpec.ofChange wireTurnedWrong)

/- THE SECOND FORM. 'bulk': how many values and letters a reading holds, each counted each time it is reached (what is shared counts as often as it is met; a slice's spare places count too). A statement '..UptoSaid' is the law's where the arguments, and the package variables that the reading takes, are together of bulk at most 1048576: NARROWER than '..Said'. Prove '..Said' where nothing that the law and all that it calls make is longer than what came in: it says more and counts as full. Else prove '..UptoSaid'. A law counts once. -/
mutual
def uptoBulk {H : Type} : DataW H → Nat
  | .lit (.string bytes) => bytes.length + 1
  | .lit _ => 1
  | .nil => 1
  | .ptr d => uptoBulk d + 1
  | .slice elems spare => uptoBulkAll elems + uptoBulkAll spare + 1
  | .agg parts => uptoBulkAll parts + 1
  | .iface _ d => uptoBulk d + 1
  | .map entries => uptoBulkEntries entries + 1
  | .held _ => 1
def uptoBulkAll {H : Type} : List (DataW H) → Nat
  | [] => 0
  | d :: r => uptoBulk d + uptoBulkAll r
def uptoBulkEntries {H : Type} : List (Lit × DataW H) → Nat
  | [] => 0
  | x :: r => uptoBulkEntry x + uptoBulkEntries r
def uptoBulkEntry {H : Type} : Lit × DataW H → Nat
  | (.string bytes, d) => bytes.length + uptoBulk d + 1
  | (_, d) => uptoBulk d + 1
 end
def uptoSmall : (H : Type) → List (DataW H) → Bool := fun _ ds => decide (uptoBulkAll ds ≤ 1048576)
def OpenSpec.upto (s : _root_.Go.ChangeSpec) : _root_.Go.OpenSpec := { _root_.Go.OpenSpec.ofChange s with cond := some uptoSmall }

/-- 'watershedkeep.DiffsMobius', WHERE WHAT IT READS IS OF BULK AT MOST 1048576: true; the input reads as it did. -/
def diffsMobiusUptoRow : OpenClaim := { program := "ytnieamciihdfpaa", sum := "0bf9080ef25e4984f4516087e078bcf2b5b468ac72be355ba1aa481254fa6f4e", func := "watershed/watershedkeep.DiffsMobius", spec := "diffsMobius", unfollowed := true, recurses := true, plainKeys := false, apart := false, narrowed := true }
def DiffsMobiusUptoSaid : Prop := diffsMobiusUptoRow.holds Try.pinned (OpenSpec.upto diffsMobiusSpec)

/-- 'watershedkeep.DiffsCompacts', WHERE WHAT IT READS IS OF BULK AT MOST 1048576: true; the input reads as it did. -/
def diffsCompactsUptoRow : OpenClaim := { program := "ytnieamciihdfpaa", sum := "0bf9080ef25e4984f4516087e078bcf2b5b468ac72be355ba1aa481254fa6f4e", func := "watershed/watershedkeep.DiffsCompacts", spec := "diffsCompacts", unfollowed := true, recurses := true, plainKeys := false, apart := false, narrowed := true }
def DiffsCompactsUptoSaid : Prop := diffsCompactsUptoRow.holds Try.pinned (OpenSpec.upto diffsCompactsSpec)

/-- 'watershedkeep.DiffsAdds', WHERE WHAT IT READS IS OF BULK AT MOST 1048576: true; the input reads as it did. -/
def diffsAddsUptoRow : OpenClaim := { program := "ytnieamciihdfpaa", sum := "0bf9080ef25e4984f4516087e078bcf2b5b468ac72be355ba1aa481254fa6f4e", func := "watershed/watershedkeep.DiffsAdds", spec := "diffsAdds", unfollowed := true, recurses := true, plainKeys := false, apart := false, narrowed := true }
def DiffsAddsUptoSaid : Prop := diffsAddsUptoRow.holds Try.pinned (OpenSpec.upto diffsAddsSpec)

/-- 'watershedkeep.IncrBoth', WHERE WHAT IT READS IS OF BULK AT MOST 1048576: true; the input reads as it did. -/
def incrBothUptoRow : OpenClaim := { program := "ytnieamciihdfpaa", sum := "0bf9080ef25e4984f4516087e078bcf2b5b468ac72be355ba1aa481254fa6f4e", func := "watershed/watershedkeep.IncrBoth", spec := "incrBoth", unfollowed := true, recurses := true, plainKeys := false, apart := false, narrowed := true }
def IncrBothUptoSaid : Prop := incrBothUptoRow.holds Try.pinned (OpenSpec.upto incrBothSpec)

/-- 'watershedkeep.WireBack', WHERE WHAT IT READS IS OF BULK AT MOST 1048576: true; the input reads as it did. -/
def wireBackUptoRow : OpenClaim := { program := "ytnieamciihdfpaa", sum := "0bf9080ef25e4984f4516087e078bcf2b5b468ac72be355ba1aa481254fa6f4e", func := "watershed/watershedkeep.WireBack", spec := "wireBack", unfollowed := true, recurses := true, plainKeys := false, apart := false, narrowed := true }
def WireBackUptoSaid : Prop := wireBackUptoRow.holds Try.pinned (OpenSpec.upto wireBackSpec)

/-- 'watershedkeep.WireOnly', WHERE WHAT IT READS IS OF BULK AT MOST 1048576: true; the input reads as it did. -/
def wireOnlyUptoRow : OpenClaim := { program := "ytnieamciihdfpaa", sum := "0bf9080ef25e4984f4516087e078bcf2b5b468ac72be355ba1aa481254fa6f4e", func := "watershed/watershedkeep.WireOnly", spec := "wireOnly", unfollowed := true, recurses := true, plainKeys := false, apart := false, narrowed := true }
def WireOnlyUptoSaid : Prop := wireOnlyUptoRow.holds Try.pinned (OpenSpec.upto wireOnlySpec)

/-- 'watershedkeep.WireTurned', WHERE WHAT IT READS IS OF BULK AT MOST 1048576: true; the input reads as it did. -/
def wireTurnedUptoRow : OpenClaim := { program := "ytnieamciihdfpaa", sum := "0bf9080ef25e4984f4516087e078bcf2b5b468ac72be355ba1aa481254fa6f4e", func := "watershed/watershedkeep.WireTurned", spec := "wireTurned", unfollowed := true, recurses := true, plainKeys := false, apart := false, narrowed := true }
def WireTurnedUptoSaid : Prop := wireTurnedUptoRow.holds Try.pinned (OpenSpec.upto wireTurnedSpec)

end Rows
end Go.Proofs.Ytnieamciihdfpaa
