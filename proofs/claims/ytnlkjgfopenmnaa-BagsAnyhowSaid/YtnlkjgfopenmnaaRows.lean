/-
  No cell of these rows narrows 'for every input' (looked for: loops, veiled, ifaces, maps, wideKeys, modest, calm, conditions, laid).
  DERIVED. THE GIVEN ROWS OF THIS SEAT. 9 by the template 'for every input the law returns true; each argument reads behind the call as it read before'; 0 by the template 'total and deterministic' (their statements: YtnlkjgfopenmnaaTotals.lean).
  GIVEN WITH THE SEED: the statements are not yours to turn. If you find one false, say at which input.
  Laid BY PROGRAM, IN A SANDBOX (cutbox-rows.mjs): the forced cells as the released guide's own fill.sh prints them over the translation 70e5480a989809a5… (all of the seat's roots in one cut). By AI agents, Wed Nov 11 2026. No macro, syntax, notation, axiom, sorry.
-/
import Derived.Test.YtnlkjgfopenmnaaChecked
import GoSem.Claim
import GoSem.ClaimJoined
import GoSem.ClaimMapViews
import Derived.JoinedTies
import Derived.KernelRfl
namespace Go.Proofs.Ytnlkjgfopenmnaa
/- THE CELL 'sum', in the pinned program and in every row, IS THE sha256 OF THE DUMP (.gsa) THAT YtnlkjgfopenmnaaProg.lean LOADS. Nothing in Lean hashes anything: it is a label: what it is worth is what the hold of that sum in a sandbox is worth. -/
noncomputable def Try.pinned : Pinned := { name := "ytnlkjgfopenmnaa", sum := "70e5480a989809a564de7da05d1216bd8ee8f135674f2b5af77cf58f7617c132", checked := Try.checked }
namespace Rows
def none {H : Type} : Left H := { results := [], args := [] }

/-- 'watershedkeep.BagsAnyhow': WHATEVER THE INPUT: true; the input reads as it did. -/
def bagsAnyhowSpec : ChangeSpec := { name := "bagsAnyhow", fn := fun _ => fun
  | [d1, d2] => { results := [.lit (.bool true)], args := [d1, d2] }
  | _ => none }
def bagsAnyhowRow : OpenClaim := { program := "ytnlkjgfopenmnaa", sum := "70e5480a989809a564de7da05d1216bd8ee8f135674f2b5af77cf58f7617c132", func := "watershed/watershedkeep.BagsAnyhow", spec := "bagsAnyhow", unfollowed := true, recurses := true, plainKeys := false, apart := false }
def BagsAnyhowSaid : Prop := bagsAnyhowRow.holds Try.pinned (OpenSpec.ofChange bagsAnyhowSpec)

/-- ITS FALSE NEIGHBOUR: 'it returns false'. Refute it at one input. -/
def bagsAnyhowWrong : ChangeSpec := { name := "bagsAnyhow", fn := fun _ => fun
  | [d1, d2] => { results := [.lit (.bool false)], args := [d1, d2] }
  | _ => none }
def BagsAnyhowWrongFalsely : Prop := bagsAnyhowRow.holds Try.pinned (OpenSpec.ofChange bagsAnyhowWrong)

/-- 'watershedkeep.BagsModule': WHATEVER THE INPUT: true; the input reads as it did. -/
def bagsModuleSpec : ChangeSpec := { name := "bagsModule", fn := fun _ => fun
  | [d1, d2, d3, d4] => { results := [.lit (.bool true)], args := [d1, d2, d3, d4] }
  | _ => none }
def bagsModuleRow : OpenClaim := { program := "ytnlkjgfopenmnaa", sum := "70e5480a989809a564de7da05d1216bd8ee8f135674f2b5af77cf58f7617c132", func := "watershed/watershedkeep.BagsModule", spec := "bagsModule", unfollowed := true, recurses := true, plainKeys := false, apart := false }
def BagsModuleSaid : Prop := bagsModuleRow.holds Try.pinned (OpenSpec.ofChange bagsModuleSpec)

/-- ITS FALSE NEIGHBOUR: 'it returns false'. Refute it at one input. -/
def bagsModuleWrong : ChangeSpec := { name := "bagsModule", fn := fun _ => fun
  | [d1, d2, d3, d4] => { results := [.lit (.bool false)], args := [d1, d2, d3, d4] }
  | _ => none }
def BagsModuleWrongFalsely : Prop := bagsModuleRow.holds Try.pinned (OpenSpec.ofChange bagsModuleWrong)

/-- 'watershedkeep.CrewParts': WHATEVER THE INPUT: true; the input reads as it did. -/
def crewPartsSpec : ChangeSpec := { name := "crewParts", fn := fun _ => fun
  | [d1, d2] => { results := [.lit (.bool true)], args := [d1, d2] }
  | _ => none }
def crewPartsRow : OpenClaim := { program := "ytnlkjgfopenmnaa", sum := "70e5480a989809a564de7da05d1216bd8ee8f135674f2b5af77cf58f7617c132", func := "watershed/watershedkeep.CrewParts", spec := "crewParts", unfollowed := true, recurses := true, plainKeys := false, apart := false }
def CrewPartsSaid : Prop := crewPartsRow.holds Try.pinned (OpenSpec.ofChange crewPartsSpec)

/-- ITS FALSE NEIGHBOUR: 'it returns false'. Refute it at one input. -/
def crewPartsWrong : ChangeSpec := { name := "crewParts", fn := fun _ => fun
  | [d1, d2] => { results := [.lit (.bool false)], args := [d1, d2] }
  | _ => none }
def CrewPartsWrongFalsely : Prop := crewPartsRow.holds Try.pinned (OpenSpec.ofChange crewPartsWrong)

/-- 'watershedkeep.OpsKeys': WHATEVER THE INPUT: true; the input reads as it did. -/
def opsKeysSpec : ChangeSpec := { name := "opsKeys", fn := fun _ => fun
  | [d1, d2, d3] => { results := [.lit (.bool true)], args := [d1, d2, d3] }
  | _ => none }
def opsKeysRow : OpenClaim := { program := "ytnlkjgfopenmnaa", sum := "70e5480a989809a564de7da05d1216bd8ee8f135674f2b5af77cf58f7617c132", func := "watershed/watershedkeep.OpsKeys", spec := "opsKeys", unfollowed := true, recurses := true, plainKeys := false, apart := false }
def OpsKeysSaid : Prop := opsKeysRow.holds Try.pinned (OpenSpec.ofChange opsKeysSpec)

/-- ITS FALSE NEIGHBOUR: 'it returns false'. Refute it at one input. -/
def opsKeysWrong : ChangeSpec := { name := "opsKeys", fn := fun _ => fun
  | [d1, d2, d3] => { results := [.lit (.bool false)], args := [d1, d2, d3] }
  | _ => none }
def OpsKeysWrongFalsely : Prop := opsKeysRow.holds Try.pinned (OpenSpec.ofChange opsKeysWrong)

/-- 'watershedkeep.OpsOnce': WHATEVER THE INPUT: true; the input reads as it did. -/
def opsOnceSpec : ChangeSpec := { name := "opsOnce", fn := fun _ => fun
  | [d] => { results := [.lit (.bool true)], args := [d] }
  | _ => none }
def opsOnceRow : OpenClaim := { program := "ytnlkjgfopenmnaa", sum := "70e5480a989809a564de7da05d1216bd8ee8f135674f2b5af77cf58f7617c132", func := "watershed/watershedkeep.OpsOnce", spec := "opsOnce", unfollowed := true, recurses := true, plainKeys := false, apart := false }
def OpsOnceSaid : Prop := opsOnceRow.holds Try.pinned (OpenSpec.ofChange opsOnceSpec)

/-- ITS FALSE NEIGHBOUR: 'it returns false'. Refute it at one input. -/
def opsOnceWrong : ChangeSpec := { name := "opsOnce", fn := fun _ => fun
  | [d] => { results := [.lit (.bool false)], args := [d] }
  | _ => none }
def OpsOnceWrongFalsely : Prop := opsOnceRow.holds Try.pinned (OpenSpec.ofChange opsOnceWrong)

/-- 'watershedkeep.OpsBack': WHATEVER THE INPUT: true; the input reads as it did. -/
def opsBackSpec : ChangeSpec := { name := "opsBack", fn := fun _ => fun
  | [d1, d2, d3] => { results := [.lit (.bool true)], args := [d1, d2, d3] }
  | _ => none }
def opsBackRow : OpenClaim := { program := "ytnlkjgfopenmnaa", sum := "70e5480a989809a564de7da05d1216bd8ee8f135674f2b5af77cf58f7617c132", func := "watershed/watershedkeep.OpsBack", spec := "opsBack", unfollowed := true, recurses := true, plainKeys := false, apart := false }
def OpsBackSaid : Prop := opsBackRow.holds Try.pinned (OpenSpec.ofChange opsBackSpec)

/-- ITS FALSE NEIGHBOUR: 'it returns false'. Refute it at one input. -/
def opsBackWrong : ChangeSpec := { name := "opsBack", fn := fun _ => fun
  | [d1, d2, d3] => { results := [.lit (.bool false)], args := [d1, d2, d3] }
  | _ => none }
def OpsBackWrongFalsely : Prop := opsBackRow.holds Try.pinned (OpenSpec.ofChange opsBackWrong)

/-- 'watershedkeep.OpsLinear': WHATEVER THE INPUT: true; the input reads as it did. -/
def opsLinearSpec : ChangeSpec := { name := "opsLinear", fn := fun _ => fun
  | [d1, d2, d3] => { results := [.lit (.bool true)], args := [d1, d2, d3] }
  | _ => none }
def opsLinearRow : OpenClaim := { program := "ytnlkjgfopenmnaa", sum := "70e5480a989809a564de7da05d1216bd8ee8f135674f2b5af77cf58f7617c132", func := "watershed/watershedkeep.OpsLinear", spec := "opsLinear", unfollowed := true, recurses := true, plainKeys := false, apart := false }
def OpsLinearSaid : Prop := opsLinearRow.holds Try.pinned (OpenSpec.ofChange opsLinearSpec)

/-- ITS FALSE NEIGHBOUR: 'it returns false'. Refute it at one input. -/
def opsLinearWrong : ChangeSpec := { name := "opsLinear", fn := fun _ => fun
  | [d1, d2, d3] => { results := [.lit (.bool false)], args := [d1, d2, d3] }
  | _ => none }
def OpsLinearWrongFalsely : Prop := opsLinearRow.holds Try.pinned (OpenSpec.ofChange opsLinearWrong)

/-- 'watershedkeep.OpsSieves': WHATEVER THE INPUT: true; the input reads as it did. -/
def opsSievesSpec : ChangeSpec := { name := "opsSieves", fn := fun _ => fun
  | [d1, d2, d3, d4, d5, d6] => { results := [.lit (.bool true)], args := [d1, d2, d3, d4, d5, d6] }
  | _ => none }
def opsSievesRow : OpenClaim := { program := "ytnlkjgfopenmnaa", sum := "70e5480a989809a564de7da05d1216bd8ee8f135674f2b5af77cf58f7617c132", func := "watershed/watershedkeep.OpsSieves", spec := "opsSieves", unfollowed := true, recurses := true, plainKeys := false, apart := false }
def OpsSievesSaid : Prop := opsSievesRow.holds Try.pinned (OpenSpec.ofChange opsSievesSpec)

/-- ITS FALSE NEIGHBOUR: 'it returns false'. Refute it at one input. -/
def opsSievesWrong : ChangeSpec := { name := "opsSieves", fn := fun _ => fun
  | [d1, d2, d3, d4, d5, d6] => { results := [.lit (.bool false)], args := [d1, d2, d3, d4, d5, d6] }
  | _ => none }
def OpsSievesWrongFalsely : Prop := opsSievesRow.holds Try.pinned (OpenSpec.ofChange opsSievesWrong)

/-- 'watershedkeep.GraphRings': WHATEVER THE INPUT: true; the input reads as it did. -/
def graphRingsSpec : ChangeSpec := { name := "graphRings", fn := fun _ => fun
  | [d1, d2, d3] => { results := [.lit (.bool true)], args := [d1, d2, d3] }
  | _ => none }
def graphRingsRow : OpenClaim := { program := "ytnlkjgfopenmnaa", sum := "70e5480a989809a564de7da05d1216bd8ee8f135674f2b5af77cf58f7617c132", func := "watershed/watershedkeep.GraphRings", spec := "graphRings", plainKeys := false, apart := false }
def GraphRingsSaid : Prop := graphRingsRow.holds Try.pinned (OpenSpec.ofChange graphRingsSpec)

/-- ITS FALSE NEIGHBOUR: 'it returns false'. Refute it at one input. -/
def graphRingsWrong : ChangeSpec := { name := "graphRings", fn := fun _ => fun
  | [d1, d2, d3] => { results := [.lit (.bool false)], args := [d1, d2, d3] }
  | _ => none }
def GraphRingsWrongFalsely : Prop := graphRingsRow.holds Try.pinned (OpenSpec.ofChange graphRingsWrong)

/- THE SECOND FORM. 'bulk': how many values and letters a reading holds, each counted each time it is reached (what is shared counts as often as it is met; a slice's spare places count too). A statement '..UptoSaid' is the law's where the arguments, and the package variables that the reading takes, are together of bulk at most 1048576: NARROWER than '..Said'. Prove '..Said' where nothing that the law and all that it calls make is longer than what came in: it says more and counts as full. Else prove '..UptoSaid'. A law counts once. -/
mutual
def uptoBulk {H : Type} : DataW H → Nat
  | .lit (.string bytes) => bytes.length + 1
  | .lit _ => 1
  | .nil => 1
  | .ptr d => uptoBulk d + 1
  | .slice elems spare => uptoBulkAll elems + uptoBulkAll spare + 1
  | .agg parts => uptoBulkAll parts + 1
  | .iface _ d => uptoBulk d + 1
  | .map entries => uptoBulkEntries entries + 1
  | .held _ => 1
def uptoBulkAll {H : Type} : List (DataW H) → Nat
  | [] => 0
  | d :: r => uptoBulk d + uptoBulkAll r
def uptoBulkEntries {H : Type} : List (Lit × DataW H) → Nat
  | [] => 0
  | x :: r => uptoBulkEntry x + uptoBulkEntries r
def uptoBulkEntry {H : Type} : Lit × DataW H → Nat
  | (.string bytes, d) => bytes.length + uptoBulk d + 1
  | (_, d) => uptoBulk d + 1
 end
def uptoSmall : (H : Type) → List (DataW H) → Bool := fun _ ds => decide (uptoBulkAll ds ≤ 1048576)
def OpenSpec.upto (s : _root_.Go.ChangeSpec) : _root_.Go.OpenSpec := { _root_.Go.OpenSpec.ofChange s with cond := some uptoSmall }

/-- 'watershedkeep.BagsAnyhow', WHERE WHAT IT READS IS OF BULK AT MOST 1048576: true; the input reads as it did. -/
def bagsAnyhowUptoRow : OpenClaim := { program := "ytnlkjgfopenmnaa", sum := "70e5480a989809a564de7da05d1216bd8ee8f135674f2b5af77cf58f7617c132", func := "watershed/watershedkeep.BagsAnyhow", spec := "bagsAnyhow", unfollowed := true, recurses := true, plainKeys := false, apart := false, narrowed := true }
def BagsAnyhowUptoSaid : Prop := bagsAnyhowUptoRow.holds Try.pinned (OpenSpec.upto bagsAnyhowSpec)

/-- 'watershedkeep.BagsModule', WHERE WHAT IT READS IS OF BULK AT MOST 1048576: true; the input reads as it did. -/
def bagsModuleUptoRow : OpenClaim := { program := "ytnlkjgfopenmnaa", sum := "70e5480a989809a564de7da05d1216bd8ee8f135674f2b5af77cf58f7617c132", func := "watershed/watershedkeep.BagsModule", spec := "bagsModule", unfollowed := true, recurses := true, plainKeys := false, apart := false, narrowed := true }
def BagsModuleUptoSaid : Prop := bagsModuleUptoRow.holds Try.pinned (OpenSpec.upto bagsModuleSpec)

/-- 'watershedkeep.CrewParts', WHERE WHAT IT READS IS OF BULK AT MOST 1048576: true; the input reads as it did. -/
def crewPartsUptoRow : OpenClaim := { program := "ytnlkjgfopenmnaa", sum := "70e5480a989809a564de7da05d1216bd8ee8f135674f2b5af77cf58f7617c132", func := "watershed/watershedkeep.CrewParts", spec := "crewParts", unfollowed := true, recurses := true, plainKeys := false, apart := false, narrowed := true }
def CrewPartsUptoSaid : Prop := crewPartsUptoRow.holds Try.pinned (OpenSpec.upto crewPartsSpec)

/-- 'watershedkeep.OpsKeys', WHERE WHAT IT READS IS OF BULK AT MOST 1048576: true; the input reads as it did. -/
def opsKeysUptoRow : OpenClaim := { program := "ytnlkjgfopenmnaa", sum := "70e5480a989809a564de7da05d1216bd8ee8f135674f2b5af77cf58f7617c132", func := "watershed/watershedkeep.OpsKeys", spec := "opsKeys", unfollowed := true, recurses := true, plainKeys := false, apart := false, narrowed := true }
def OpsKeysUptoSaid : Prop := opsKeysUptoRow.holds Try.pinned (OpenSpec.upto opsKeysSpec)

/-- 'watershedkeep.OpsOnce', WHERE WHAT IT READS IS OF BULK AT MOST 1048576: true; the input reads as it did. -/
def opsOnceUptoRow : OpenClaim := { program := "ytnlkjgfopenmnaa", sum := "70e5480a989809a564de7da05d1216bd8ee8f135674f2b5af77cf58f7617c132", func := "watershed/watershedkeep.OpsOnce", spec := "opsOnce", unfollowed := true, recurses := true, plainKeys := false, apart := false, narrowed := true }
def OpsOnceUptoSaid : Prop := opsOnceUptoRow.holds Try.pinned (OpenSpec.upto opsOnceSpec)

/-- 'watershedkeep.OpsBack', WHERE WHAT IT READS IS OF BULK AT MOST 1048576: true; the input reads as it did. -/
def opsBackUptoRow : OpenClaim := { program := "ytnlkjgfopenmnaa", sum := "70e5480a989809a564de7da05d1216bd8ee8f135674f2b5af77cf58f7617c132", func := "watershed/watershedkeep.OpsBack", spec := "opsBack", unfollowed := true, recurses := true, plainKeys := false, apart := false, narrowed := true }
def OpsBackUptoSaid : Prop := opsBackUptoRow.holds Try.pinned (OpenSpec.upto opsBackSpec)

/-- 'watershedkeep.OpsLinear', WHERE WHAT IT READS IS OF BULK AT MOST 1048576: true; the input reads as it did. -/
def opsLinearUptoRow : OpenClaim := { program := "ytnlkjgfopenmnaa", sum := "70e5480a989809a564de7da05d1216bd8ee8f135674f2b5af77cf58f7617c132", func := "watershed/watershedkeep.OpsLinear", spec := "opsLinear", unfollowed := true, recurses := true, plainKeys := false, apart := false, narrowed := true }
def OpsLinearUptoSaid : Prop := opsLinearUptoRow.holds Try.pinned (OpenSpec.upto opsLinearSpec)

/-- 'watershedkeep.OpsSieves', WHERE WHAT IT READS IS OF BULK AT MOST 1048576: true; the input reads as it did. -/
def opsSievesUptoRow : OpenClaim := { program := "ytnlkjgfopenmnaa", sum := "70e5480a989809a564de7da05d1216bd8ee8f135674f2b5af77cf58f7617c132", func := "watershed/watershedkeep.OpsSieves", spec := "opsSieves", unfollowed := true, recurses := true, plainKeys := false, apart := false, narrowed := true }
def OpsSievesUptoSaid : Prop := opsSievesUptoRow.holds Try.pinned (OpenSpec.upto opsSievesSpec)

/-- 'watershedkeep.GraphRings', WHERE WHAT IT READS IS OF BULK AT MOST 1048576: true; the input reads as it did. -/
def graphRingsUptoRow : OpenClaim := { program := "ytnlkjgfopenmnaa", sum := "70e5480a989809a564de7da05d1216bd8ee8f135674f2b5af77cf58f7617c132", func := "watershed/watershedkeep.GraphRings", spec := "graphRings", plainKeys := false, apart := false, narrowed := true }
def GraphRingsUptoSaid : Prop := graphRingsUptoRow.holds Try.pinned (OpenSpec.upto graphRingsSpec)

end Rows
end Go.Proofs.Ytnlkjgfopenmnaa
