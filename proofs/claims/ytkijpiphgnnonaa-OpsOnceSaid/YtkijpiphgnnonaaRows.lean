/-
  No cell of these rows narrows 'for every input' (looked for: loops, veiled, ifaces, maps, wideKeys, modest, calm, conditions, laid).
  DERIVED. THE GIVEN ROWS OF THIS SEAT. 10 by the template 'for every input the law returns true; each argument reads behind the call as it read before'; 0 by the template 'total and deterministic' (their statements: YtkijpiphgnnonaaTotals.lean).
  GIVEN WITH THE SEED: the statements are not yours to turn. If you find one false, say at which input.
  Laid BY PROGRAM, IN A SANDBOX (cutbox-rows.mjs): the forced cells as the released guide's own fill.sh prints them over the translation c3fadd5ac11ea443… (all of the seat's roots in one cut). By AI agents, Wed Nov 11 2026. No macro, syntax, notation, axiom, sorry.
-/
import Derived.Test.YtkijpiphgnnonaaChecked
import GoSem.Claim
import GoSem.ClaimJoined
import GoSem.ClaimMapViews
import Derived.JoinedTies
import Derived.KernelRfl
namespace Go.Proofs.Ytkijpiphgnnonaa
/- THE CELL 'sum', in the pinned program and in every row, IS THE sha256 OF THE DUMP (.gsa) THAT YtkijpiphgnnonaaProg.lean LOADS. Nothing in Lean hashes anything: it is a label: what it is worth is what the hold of that sum in a sandbox is worth. -/
noncomputable def Try.pinned : Pinned := { name := "ytkijpiphgnnonaa", sum := "c3fadd5ac11ea443a02fc19d049212293b0def11841d6d2bff0b4a9ea15485a0", checked := Try.checked }
namespace Rows
def none {H : Type} : Left H := { results := [], args := [] }

/-- 'watershedkeep.LoopKleene': WHATEVER THE INPUT: true; the input reads as it did. -/
def loopKleeneSpec : ChangeSpec := { name := "loopKleene", fn := fun _ => fun
  | [d1, d2, d3] => { results := [.lit (.bool true)], args := [d1, d2, d3] }
  | _ => none }
def loopKleeneRow : OpenClaim := { program := "ytkijpiphgnnonaa", sum := "c3fadd5ac11ea443a02fc19d049212293b0def11841d6d2bff0b4a9ea15485a0", func := "watershed/watershedkeep.LoopKleene", spec := "loopKleene", inPlace := ["maps.clone"], unfollowed := true, recurses := true, plainKeys := false, apart := false }
def LoopKleeneSaid : Prop := loopKleeneRow.holds Try.pinned (OpenSpec.ofChange loopKleeneSpec)

/-- ITS FALSE NEIGHBOUR: 'it returns false'. Refute it at one input. -/
def loopKleeneWrong : ChangeSpec := { name := "loopKleene", fn := fun _ => fun
  | [d1, d2, d3] => { results := [.lit (.bool false)], args := [d1, d2, d3] }
  | _ => none }
def LoopKleeneWrongFalsely : Prop := loopKleeneRow.holds Try.pinned (OpenSpec.ofChange loopKleeneWrong)

/-- 'watershedkeep.LoopJoins': WHATEVER THE INPUT: true; the input reads as it did. -/
def loopJoinsSpec : ChangeSpec := { name := "loopJoins", fn := fun _ => fun
  | [d1, d2, d3] => { results := [.lit (.bool true)], args := [d1, d2, d3] }
  | _ => none }
def loopJoinsRow : OpenClaim := { program := "ytkijpiphgnnonaa", sum := "c3fadd5ac11ea443a02fc19d049212293b0def11841d6d2bff0b4a9ea15485a0", func := "watershed/watershedkeep.LoopJoins", spec := "loopJoins", inPlace := ["maps.clone"], unfollowed := true, recurses := true, plainKeys := false, apart := false }
def LoopJoinsSaid : Prop := loopJoinsRow.holds Try.pinned (OpenSpec.ofChange loopJoinsSpec)

/-- ITS FALSE NEIGHBOUR: 'it returns false'. Refute it at one input. -/
def loopJoinsWrong : ChangeSpec := { name := "loopJoins", fn := fun _ => fun
  | [d1, d2, d3] => { results := [.lit (.bool false)], args := [d1, d2, d3] }
  | _ => none }
def LoopJoinsWrongFalsely : Prop := loopJoinsRow.holds Try.pinned (OpenSpec.ofChange loopJoinsWrong)

/-- 'watershedkeep.LoopAgain': WHATEVER THE INPUT: true; the input reads as it did. -/
def loopAgainSpec : ChangeSpec := { name := "loopAgain", fn := fun _ => fun
  | [d1, d2, d3] => { results := [.lit (.bool true)], args := [d1, d2, d3] }
  | _ => none }
def loopAgainRow : OpenClaim := { program := "ytkijpiphgnnonaa", sum := "c3fadd5ac11ea443a02fc19d049212293b0def11841d6d2bff0b4a9ea15485a0", func := "watershed/watershedkeep.LoopAgain", spec := "loopAgain", inPlace := ["maps.clone"], unfollowed := true, recurses := true, plainKeys := false, apart := false }
def LoopAgainSaid : Prop := loopAgainRow.holds Try.pinned (OpenSpec.ofChange loopAgainSpec)

/-- ITS FALSE NEIGHBOUR: 'it returns false'. Refute it at one input. -/
def loopAgainWrong : ChangeSpec := { name := "loopAgain", fn := fun _ => fun
  | [d1, d2, d3] => { results := [.lit (.bool false)], args := [d1, d2, d3] }
  | _ => none }
def LoopAgainWrongFalsely : Prop := loopAgainRow.holds Try.pinned (OpenSpec.ofChange loopAgainWrong)

/-- 'watershedkeep.DiffsAdds': WHATEVER THE INPUT: true; the input reads as it did. -/
def diffsAddsSpec : ChangeSpec := { name := "diffsAdds", fn := fun _ => fun
  | [d1, d2, d3] => { results := [.lit (.bool true)], args := [d1, d2, d3] }
  | _ => none }
def diffsAddsRow : OpenClaim := { program := "ytkijpiphgnnonaa", sum := "c3fadd5ac11ea443a02fc19d049212293b0def11841d6d2bff0b4a9ea15485a0", func := "watershed/watershedkeep.DiffsAdds", spec := "diffsAdds", unfollowed := true, recurses := true, plainKeys := false, apart := false }
def DiffsAddsSaid : Prop := diffsAddsRow.holds Try.pinned (OpenSpec.ofChange diffsAddsSpec)

/-- ITS FALSE NEIGHBOUR: 'it returns false'. Refute it at one input. -/
def diffsAddsWrong : ChangeSpec := { name := "diffsAdds", fn := fun _ => fun
  | [d1, d2, d3] => { results := [.lit (.bool false)], args := [d1, d2, d3] }
  | _ => none }
def DiffsAddsWrongFalsely : Prop := diffsAddsRow.holds Try.pinned (OpenSpec.ofChange diffsAddsWrong)

/-- 'watershedkeep.OpsKeys': WHATEVER THE INPUT: true; the input reads as it did. -/
def opsKeysSpec : ChangeSpec := { name := "opsKeys", fn := fun _ => fun
  | [d1, d2, d3] => { results := [.lit (.bool true)], args := [d1, d2, d3] }
  | _ => none }
def opsKeysRow : OpenClaim := { program := "ytkijpiphgnnonaa", sum := "c3fadd5ac11ea443a02fc19d049212293b0def11841d6d2bff0b4a9ea15485a0", func := "watershed/watershedkeep.OpsKeys", spec := "opsKeys", unfollowed := true, recurses := true, plainKeys := false, apart := false }
def OpsKeysSaid : Prop := opsKeysRow.holds Try.pinned (OpenSpec.ofChange opsKeysSpec)

/-- ITS FALSE NEIGHBOUR: 'it returns false'. Refute it at one input. -/
def opsKeysWrong : ChangeSpec := { name := "opsKeys", fn := fun _ => fun
  | [d1, d2, d3] => { results := [.lit (.bool false)], args := [d1, d2, d3] }
  | _ => none }
def OpsKeysWrongFalsely : Prop := opsKeysRow.holds Try.pinned (OpenSpec.ofChange opsKeysWrong)

/-- 'watershedkeep.OpsOnce': WHATEVER THE INPUT: true; the input reads as it did. -/
def opsOnceSpec : ChangeSpec := { name := "opsOnce", fn := fun _ => fun
  | [d] => { results := [.lit (.bool true)], args := [d] }
  | _ => none }
def opsOnceRow : OpenClaim := { program := "ytkijpiphgnnonaa", sum := "c3fadd5ac11ea443a02fc19d049212293b0def11841d6d2bff0b4a9ea15485a0", func := "watershed/watershedkeep.OpsOnce", spec := "opsOnce", unfollowed := true, recurses := true, plainKeys := false, apart := false }
def OpsOnceSaid : Prop := opsOnceRow.holds Try.pinned (OpenSpec.ofChange opsOnceSpec)

/-- ITS FALSE NEIGHBOUR: 'it returns false'. Refute it at one input. -/
def opsOnceWrong : ChangeSpec := { name := "opsOnce", fn := fun _ => fun
  | [d] => { results := [.lit (.bool false)], args := [d] }
  | _ => none }
def OpsOnceWrongFalsely : Prop := opsOnceRow.holds Try.pinned (OpenSpec.ofChange opsOnceWrong)

/-- 'watershedkeep.OpsBack': WHATEVER THE INPUT: true; the input reads as it did. -/
def opsBackSpec : ChangeSpec := { name := "opsBack", fn := fun _ => fun
  | [d1, d2, d3] => { results := [.lit (.bool true)], args := [d1, d2, d3] }
  | _ => none }
def opsBackRow : OpenClaim := { program := "ytkijpiphgnnonaa", sum := "c3fadd5ac11ea443a02fc19d049212293b0def11841d6d2bff0b4a9ea15485a0", func := "watershed/watershedkeep.OpsBack", spec := "opsBack", unfollowed := true, recurses := true, plainKeys := false, apart := false }
def OpsBackSaid : Prop := opsBackRow.holds Try.pinned (OpenSpec.ofChange opsBackSpec)

/-- ITS FALSE NEIGHBOUR: 'it returns false'. Refute it at one input. -/
def opsBackWrong : ChangeSpec := { name := "opsBack", fn := fun _ => fun
  | [d1, d2, d3] => { results := [.lit (.bool false)], args := [d1, d2, d3] }
  | _ => none }
def OpsBackWrongFalsely : Prop := opsBackRow.holds Try.pinned (OpenSpec.ofChange opsBackWrong)

/-- 'watershedkeep.OpsLinear': WHATEVER THE INPUT: true; the input reads as it did. -/
def opsLinearSpec : ChangeSpec := { name := "opsLinear", fn := fun _ => fun
  | [d1, d2, d3] => { results := [.lit (.bool true)], args := [d1, d2, d3] }
  | _ => none }
def opsLinearRow : OpenClaim := { program := "ytkijpiphgnnonaa", sum := "c3fadd5ac11ea443a02fc19d049212293b0def11841d6d2bff0b4a9ea15485a0", func := "watershed/watershedkeep.OpsLinear", spec := "opsLinear", unfollowed := true, recurses := true, plainKeys := false, apart := false }
def OpsLinearSaid : Prop := opsLinearRow.holds Try.pinned (OpenSpec.ofChange opsLinearSpec)

/-- ITS FALSE NEIGHBOUR: 'it returns false'. Refute it at one input. -/
def opsLinearWrong : ChangeSpec := { name := "opsLinear", fn := fun _ => fun
  | [d1, d2, d3] => { results := [.lit (.bool false)], args := [d1, d2, d3] }
  | _ => none }
def OpsLinearWrongFalsely : Prop := opsLinearRow.holds Try.pinned (OpenSpec.ofChange opsLinearWrong)

/-- 'watershedkeep.OpsBrackets': WHATEVER THE INPUT: true; the input reads as it did. -/
def opsBracketsSpec : ChangeSpec := { name := "opsBrackets", fn := fun _ => fun
  | [d1, d2, d3] => { results := [.lit (.bool true)], args := [d1, d2, d3] }
  | _ => none }
def opsBracketsRow : OpenClaim := { program := "ytkijpiphgnnonaa", sum := "c3fadd5ac11ea443a02fc19d049212293b0def11841d6d2bff0b4a9ea15485a0", func := "watershed/watershedkeep.OpsBrackets", spec := "opsBrackets", unfollowed := true, recurses := true, plainKeys := false, apart := false }
def OpsBracketsSaid : Prop := opsBracketsRow.holds Try.pinned (OpenSpec.ofChange opsBracketsSpec)

/-- ITS FALSE NEIGHBOUR: 'it returns false'. Refute it at one input. -/
def opsBracketsWrong : ChangeSpec := { name := "opsBrackets", fn := fun _ => fun
  | [d1, d2, d3] => { results := [.lit (.bool false)], args := [d1, d2, d3] }
  | _ => none }
def OpsBracketsWrongFalsely : Prop := opsBracketsRow.holds Try.pinned (OpenSpec.ofChange opsBracketsWrong)

/-- 'watershedkeep.OpsBilinear': WHATEVER THE INPUT: true; the input reads as it did. -/
def opsBilinearSpec : ChangeSpec := { name := "opsBilinear", fn := fun _ => fun
  | [d1, d2, d3, d4, d5] => { results := [.lit (.bool true)], args := [d1, d2, d3, d4, d5] }
  | _ => none }
def opsBilinearRow : OpenClaim := { program := "ytkijpiphgnnonaa", sum := "c3fadd5ac11ea443a02fc19d049212293b0def11841d6d2bff0b4a9ea15485a0", func := "watershed/watershedkeep.OpsBilinear", spec := "opsBilinear", unfollowed := true, recurses := true, plainKeys := false, apart := false }
def OpsBilinearSaid : Prop := opsBilinearRow.holds Try.pinned (OpenSpec.ofChange opsBilinearSpec)

/-- ITS FALSE NEIGHBOUR: 'it returns false'. Refute it at one input. -/
def opsBilinearWrong : ChangeSpec := { name := "opsBilinear", fn := fun _ => fun
  | [d1, d2, d3, d4, d5] => { results := [.lit (.bool false)], args := [d1, d2, d3, d4, d5] }
  | _ => none }
def OpsBilinearWrongFalsely : Prop := opsBilinearRow.holds Try.pinned (OpenSpec.ofChange opsBilinearWrong)

/- THE SECOND FORM. 'bulk': how many values and letters a reading holds, each counted each time it is reached (what is shared counts as often as it is met; a slice's spare places count too). A statement '..UptoSaid' is the law's where the arguments, and the package variables that the reading takes, are together of bulk at most 1048576: NARROWER than '..Said'. Prove '..Said' where nothing that the law and all that it calls make is longer than what came in: it says more and counts as full. Else prove '..UptoSaid'. A law counts once. -/
mutual
def uptoBulk {H : Type} : DataW H → Nat
  | .lit (.string bytes) => bytes.length + 1
  | .lit _ => 1
  | .nil => 1
  | .ptr d => uptoBulk d + 1
  | .slice elems spare => uptoBulkAll elems + uptoBulkAll spare + 1
  | .agg parts => uptoBulkAll parts + 1
  | .iface _ d => uptoBulk d + 1
  | .map entries => uptoBulkEntries entries + 1
  | .held _ => 1
def uptoBulkAll {H : Type} : List (DataW H) → Nat
  | [] => 0
  | d :: r => uptoBulk d + uptoBulkAll r
def uptoBulkEntries {H : Type} : List (Lit × DataW H) → Nat
  | [] => 0
  | x :: r => uptoBulkEntry x + uptoBulkEntries r
def uptoBulkEntry {H : Type} : Lit × DataW H → Nat
  | (.string bytes, d) => bytes.length + uptoBulk d + 1
  | (_, d) => uptoBulk d + 1
 end
def uptoSmall : (H : Type) → List (DataW H) → Bool := fun _ ds => decide (uptoBulkAll ds ≤ 1048576)
def OpenSpec.upto (s : _root_.Go.ChangeSpec) : _root_.Go.OpenSpec := { _root_.Go.OpenSpec.ofChange s with cond := some uptoSmall }

/-- 'watershedkeep.LoopKleene', WHERE WHAT IT READS IS OF BULK AT MOST 1048576: true; the input reads as it did. -/
def loopKleeneUptoRow : OpenClaim := { program := "ytkijpiphgnnonaa", sum := "c3fadd5ac11ea443a02fc19d049212293b0def11841d6d2bff0b4a9ea15485a0", func := "watershed/watershedkeep.LoopKleene", spec := "loopKleene", inPlace := ["maps.clone"], unfollowed := true, recurses := true, plainKeys := false, apart := false, narrowed := true }
def LoopKleeneUptoSaid : Prop := loopKleeneUptoRow.holds Try.pinned (OpenSpec.upto loopKleeneSpec)

/-- 'watershedkeep.LoopJoins', WHERE WHAT IT READS IS OF BULK AT MOST 1048576: true; the input reads as it did. -/
def loopJoinsUptoRow : OpenClaim := { program := "ytkijpiphgnnonaa", sum := "c3fadd5ac11ea443a02fc19d049212293b0def11841d6d2bff0b4a9ea15485a0", func := "watershed/watershedkeep.LoopJoins", spec := "loopJoins", inPlace := ["maps.clone"], unfollowed := true, recurses := true, plainKeys := false, apart := false, narrowed := true }
def LoopJoinsUptoSaid : Prop := loopJoinsUptoRow.holds Try.pinned (OpenSpec.upto loopJoinsSpec)

/-- 'watershedkeep.LoopAgain', WHERE WHAT IT READS IS OF BULK AT MOST 1048576: true; the input reads as it did. -/
def loopAgainUptoRow : OpenClaim := { program := "ytkijpiphgnnonaa", sum := "c3fadd5ac11ea443a02fc19d049212293b0def11841d6d2bff0b4a9ea15485a0", func := "watershed/watershedkeep.LoopAgain", spec := "loopAgain", inPlace := ["maps.clone"], unfollowed := true, recurses := true, plainKeys := false, apart := false, narrowed := true }
def LoopAgainUptoSaid : Prop := loopAgainUptoRow.holds Try.pinned (OpenSpec.upto loopAgainSpec)

/-- 'watershedkeep.DiffsAdds', WHERE WHAT IT READS IS OF BULK AT MOST 1048576: true; the input reads as it did. -/
def diffsAddsUptoRow : OpenClaim := { program := "ytkijpiphgnnonaa", sum := "c3fadd5ac11ea443a02fc19d049212293b0def11841d6d2bff0b4a9ea15485a0", func := "watershed/watershedkeep.DiffsAdds", spec := "diffsAdds", unfollowed := true, recurses := true, plainKeys := false, apart := false, narrowed := true }
def DiffsAddsUptoSaid : Prop := diffsAddsUptoRow.holds Try.pinned (OpenSpec.upto diffsAddsSpec)

/-- 'watershedkeep.OpsKeys', WHERE WHAT IT READS IS OF BULK AT MOST 1048576: true; the input reads as it did. -/
def opsKeysUptoRow : OpenClaim := { program := "ytkijpiphgnnonaa", sum := "c3fadd5ac11ea443a02fc19d049212293b0def11841d6d2bff0b4a9ea15485a0", func := "watershed/watershedkeep.OpsKeys", spec := "opsKeys", unfollowed := true, recurses := true, plainKeys := false, apart := false, narrowed := true }
def OpsKeysUptoSaid : Prop := opsKeysUptoRow.holds Try.pinned (OpenSpec.upto opsKeysSpec)

/-- 'watershedkeep.OpsOnce', WHERE WHAT IT READS IS OF BULK AT MOST 1048576: true; the input reads as it did. -/
def opsOnceUptoRow : OpenClaim := { program := "ytkijpiphgnnonaa", sum := "c3fadd5ac11ea443a02fc19d049212293b0def11841d6d2bff0b4a9ea15485a0", func := "watershed/watershedkeep.OpsOnce", spec := "opsOnce", unfollowed := true, recurses := true, plainKeys := false, apart := false, narrowed := true }
def OpsOnceUptoSaid : Prop := opsOnceUptoRow.holds Try.pinned (OpenSpec.upto opsOnceSpec)

/-- 'watershedkeep.OpsBack', WHERE WHAT IT READS IS OF BULK AT MOST 1048576: true; the input reads as it did. -/
def opsBackUptoRow : OpenClaim := { program := "ytkijpiphgnnonaa", sum := "c3fadd5ac11ea443a02fc19d049212293b0def11841d6d2bff0b4a9ea15485a0", func := "watershed/watershedkeep.OpsBack", spec := "opsBack", unfollowed := true, recurses := true, plainKeys := false, apart := false, narrowed := true }
def OpsBackUptoSaid : Prop := opsBackUptoRow.holds Try.pinned (OpenSpec.upto opsBackSpec)

/-- 'watershedkeep.OpsLinear', WHERE WHAT IT READS IS OF BULK AT MOST 1048576: true; the input reads as it did. -/
def opsLinearUptoRow : OpenClaim := { program := "ytkijpiphgnnonaa", sum := "c3fadd5ac11ea443a02fc19d049212293b0def11841d6d2bff0b4a9ea15485a0", func := "watershed/watershedkeep.OpsLinear", spec := "opsLinear", unfollowed := true, recurses := true, plainKeys := false, apart := false, narrowed := true }
def OpsLinearUptoSaid : Prop := opsLinearUptoRow.holds Try.pinned (OpenSpec.upto opsLinearSpec)

/-- 'watershedkeep.OpsBrackets', WHERE WHAT IT READS IS OF BULK AT MOST 1048576: true; the input reads as it did. -/
def opsBracketsUptoRow : OpenClaim := { program := "ytkijpiphgnnonaa", sum := "c3fadd5ac11ea443a02fc19d049212293b0def11841d6d2bff0b4a9ea15485a0", func := "watershed/watershedkeep.OpsBrackets", spec := "opsBrackets", unfollowed := true, recurses := true, plainKeys := false, apart := false, narrowed := true }
def OpsBracketsUptoSaid : Prop := opsBracketsUptoRow.holds Try.pinned (OpenSpec.upto opsBracketsSpec)

/-- 'watershedkeep.OpsBilinear', WHERE WHAT IT READS IS OF BULK AT MOST 1048576: true; the input reads as it did. -/
def opsBilinearUptoRow : OpenClaim := { program := "ytkijpiphgnnonaa", sum := "c3fadd5ac11ea443a02fc19d049212293b0def11841d6d2bff0b4a9ea15485a0", func := "watershed/watershedkeep.OpsBilinear", spec := "opsBilinear", unfollowed := true, recurses := true, plainKeys := false, apart := false, narrowed := true }
def OpsBilinearUptoSaid : Prop := opsBilinearUptoRow.holds Try.pinned (OpenSpec.upto opsBilinearSpec)

end Rows
end Go.Proofs.Ytkijpiphgnnonaa
