/-
  No cell of these rows narrows 'for every input' (looked for: loops, veiled, ifaces, maps, wideKeys, modest, calm, conditions, laid).
  DERIVED. THE GIVEN ROWS OF THIS SEAT. 5 by the template 'for every input the law returns true; each argument reads behind the call as it read before'; 0 by the template 'total and deterministic' (their statements: YtnieamciihdfpaaGreatTotals.lean).
  GIVEN WITH THE SEED: the statements are not yours to turn. If you find one false, say at which input.
  Laid BY PROGRAM, IN A SANDBOX (cutbox-rows.mjs): the forced cells as the released guide's own fill.sh prints them over the translation 34b7ac736f9f901c… (all of the seat's roots in one cut). By AI agents, Wed Nov 11 2026. No macro, syntax, notation, axiom, sorry.
-/
import Derived.Test.YtnieamciihdfpaaGreatChecked
import GoSem.Claim
import GoSem.ClaimJoined
import GoSem.ClaimMapViews
import Derived.JoinedTies
import Derived.KernelRfl
namespace Go.Proofs.YtnieamciihdfpaaGreat
/- THE CELL 'sum', in the pinned program and in every row, IS THE sha256 OF THE DUMP (.gsa) THAT YtnieamciihdfpaaGreatProg.lean LOADS. Nothing in Lean hashes anything: it is a label: what it is worth is what the hold of that sum in a sandbox is worth. -/
noncomputable def Tryz.pinned : Pinned := { name := "ytnieamciihdfpaagreat", sum := "34b7ac736f9f901ca9ae3be47e75ae2900d095c5ded2803c5191288954e7f6f8", checked := Tryz.checked }
namespace Rows
def none {H : Type} : Left H := { results := [], args := [] }

/-- 'watershedkeep.IncrCausal': WHATEVER THE INPUT: true; the input reads as it did. -/
def incrCausalSpec : ChangeSpec := { name := "incrCausal", fn := fun _ => fun
  | [d1, d2, d3, d4] => { results := [.lit (.bool true)], args := [d1, d2, d3, d4] }
  | _ => none }
def incrCausalRow : OpenClaim := { program := "ytnieamciihdfpaagreat", sum := "34b7ac736f9f901ca9ae3be47e75ae2900d095c5ded2803c5191288954e7f6f8", func := "watershed/watershedkeep.IncrCausal", spec := "incrCausal", unfollowed := true, recurses := true, plainKeys := false, apart := false }
def IncrCausalSaid : Prop := incrCausalRow.holds Tryz.pinned (OpenSpec.ofChange incrCausalSpec)

/-- ITS FALSE NEIGHBOUR: 'it returns false'. Refute it at one input. -/
def incrCausalWrong : ChangeSpec := { name := "incrCausal", fn := fun _ => fun
  | [d1, d2, d3, d4] => { results := [.lit (.bool false)], args := [d1, d2, d3, d4] }
  | _ => none }
def IncrCausalWrongFalsely : Prop := incrCausalRow.holds Tryz.pinned (OpenSpec.ofChange incrCausalWrong)

/-- 'watershedkeep.IncrStraight': WHATEVER THE INPUT: true; the input reads as it did. -/
def incrStraightSpec : ChangeSpec := { name := "incrStraight", fn := fun _ => fun
  | [d1, d2] => { results := [.lit (.bool true)], args := [d1, d2] }
  | _ => none }
def incrStraightRow : OpenClaim := { program := "ytnieamciihdfpaagreat", sum := "34b7ac736f9f901ca9ae3be47e75ae2900d095c5ded2803c5191288954e7f6f8", func := "watershed/watershedkeep.IncrStraight", spec := "incrStraight", unfollowed := true, recurses := true, plainKeys := false, apart := false }
def IncrStraightSaid : Prop := incrStraightRow.holds Tryz.pinned (OpenSpec.ofChange incrStraightSpec)

/-- ITS FALSE NEIGHBOUR: 'it returns false'. Refute it at one input. -/
def incrStraightWrong : ChangeSpec := { name := "incrStraight", fn := fun _ => fun
  | [d1, d2] => { results := [.lit (.bool false)], args := [d1, d2] }
  | _ => none }
def IncrStraightWrongFalsely : Prop := incrStraightRow.holds Tryz.pinned (OpenSpec.ofChange incrStraightWrong)

/-- 'watershedkeep.IncrRight': WHATEVER THE INPUT: true; the input reads as it did. -/
def incrRightSpec : ChangeSpec := { name := "incrRight", fn := fun _ => fun
  | [d1, d2, d3] => { results := [.lit (.bool true)], args := [d1, d2, d3] }
  | _ => none }
def incrRightRow : OpenClaim := { program := "ytnieamciihdfpaagreat", sum := "34b7ac736f9f901ca9ae3be47e75ae2900d095c5ded2803c5191288954e7f6f8", func := "watershed/watershedkeep.IncrRight", spec := "incrRight", unfollowed := true, recurses := true, plainKeys := false, apart := false }
def IncrRightSaid : Prop := incrRightRow.holds Tryz.pinned (OpenSpec.ofChange incrRightSpec)

/-- ITS FALSE NEIGHBOUR: 'it returns false'. Refute it at one input. -/
def incrRightWrong : ChangeSpec := { name := "incrRight", fn := fun _ => fun
  | [d1, d2, d3] => { results := [.lit (.bool false)], args := [d1, d2, d3] }
  | _ => none }
def IncrRightWrongFalsely : Prop := incrRightRow.holds Tryz.pinned (OpenSpec.ofChange incrRightWrong)

/-- 'watershedkeep.IncrChain': WHATEVER THE INPUT: true; the input reads as it did. -/
def incrChainSpec : ChangeSpec := { name := "incrChain", fn := fun _ => fun
  | [d1, d2, d3, d4] => { results := [.lit (.bool true)], args := [d1, d2, d3, d4] }
  | _ => none }
def incrChainRow : OpenClaim := { program := "ytnieamciihdfpaagreat", sum := "34b7ac736f9f901ca9ae3be47e75ae2900d095c5ded2803c5191288954e7f6f8", func := "watershed/watershedkeep.IncrChain", spec := "incrChain", unfollowed := true, recurses := true, plainKeys := false, apart := false }
def IncrChainSaid : Prop := incrChainRow.holds Tryz.pinned (OpenSpec.ofChange incrChainSpec)

/-- ITS FALSE NEIGHBOUR: 'it returns false'. Refute it at one input. -/
def incrChainWrong : ChangeSpec := { name := "incrChain", fn := fun _ => fun
  | [d1, d2, d3, d4] => { results := [.lit (.bool false)], args := [d1, d2, d3, d4] }
  | _ => none }
def IncrChainWrongFalsely : Prop := incrChainRow.holds Tryz.pinned (OpenSpec.ofChange incrChainWrong)

/-- 'watershedkeep.LoopNested': WHATEVER THE INPUT: true; the input reads as it did. -/
def loopNestedSpec : ChangeSpec := { name := "loopNested", fn := fun _ => fun
  | [d1, d2, d3, d4, d5] => { results := [.lit (.bool true)], args := [d1, d2, d3, d4, d5] }
  | _ => none }
def loopNestedRow : OpenClaim := { program := "ytnieamciihdfpaagreat", sum := "34b7ac736f9f901ca9ae3be47e75ae2900d095c5ded2803c5191288954e7f6f8", func := "watershed/watershedkeep.LoopNested", spec := "loopNested", inPlace := ["maps.clone"], unfollowed := true, recurses := true, plainKeys := false, apart := false }
def LoopNestedSaid : Prop := loopNestedRow.holds Tryz.pinned (OpenSpec.ofChange loopNestedSpec)

/-- ITS FALSE NEIGHBOUR: 'it returns false'. Refute it at one input. -/
def loopNestedWrong : ChangeSpec := { name := "loopNested", fn := fun _ => fun
  | [d1, d2, d3, d4, d5] => { results := [.lit (.bool false)], args := [d1, d2, d3, d4, d5] }
  | _ => none }
def LoopNestedWrongFalsely : Prop := loopNestedRow.holds Tryz.pinned (OpenSpec.ofChange loopNestedWrong)

/- THE SECOND FORM. 'bulk': how many values and letters a reading holds, each counted each time it is reached (what is shared counts as often as it is met; a slice's spare places count too). A statement '..UptoSaid' is the law's where the arguments, and the package variables that the reading takes, are together of bulk at most 1048576: NARROWER than '..Said'. Prove '..Said' where nothing that the law and all that it calls make is longer than what came in: it says more and counts as full. Else prove '..UptoSaid'. A law counts once. -/
mutual
def uptoBulk {H : Type} : DataW H → Nat
  | .lit (.string bytes) => bytes.length + 1
  | .lit _ => 1
  | .nil => 1
  | .ptr d => uptoBulk d + 1
  | .slice elems spare => uptoBulkAll elems + uptoBulkAll spare + 1
  | .agg parts => uptoBulkAll parts + 1
  | .iface _ d => uptoBulk d + 1
  | .map entries => uptoBulkEntries entries + 1
  | .held _ => 1
def uptoBulkAll {H : Type} : List (DataW H) → Nat
  | [] => 0
  | d :: r => uptoBulk d + uptoBulkAll r
def uptoBulkEntries {H : Type} : List (Lit × DataW H) → Nat
  | [] => 0
  | x :: r => uptoBulkEntry x + uptoBulkEntries r
def uptoBulkEntry {H : Type} : Lit × DataW H → Nat
  | (.string bytes, d) => bytes.length + uptoBulk d + 1
  | (_, d) => uptoBulk d + 1
 end
def uptoSmall : (H : Type) → List (DataW H) → Bool := fun _ ds => decide (uptoBulkAll ds ≤ 1048576)
def OpenSpec.upto (s : _root_.Go.ChangeSpec) : _root_.Go.OpenSpec := { _root_.Go.OpenSpec.ofChange s with cond := some uptoSmall }

/-- 'watershedkeep.IncrCausal', WHERE WHAT IT READS IS OF BULK AT MOST 1048576: true; the input reads as it did. -/
def incrCausalUptoRow : OpenClaim := { program := "ytnieamciihdfpaagreat", sum := "34b7ac736f9f901ca9ae3be47e75ae2900d095c5ded2803c5191288954e7f6f8", func := "watershed/watershedkeep.IncrCausal", spec := "incrCausal", unfollowed := true, recurses := true, plainKeys := false, apart := false, narrowed := true }
def IncrCausalUptoSaid : Prop := incrCausalUptoRow.holds Tryz.pinned (OpenSpec.upto incrCausalSpec)

/-- 'watershedkeep.IncrStraight', WHERE WHAT IT READS IS OF BULK AT MOST 1048576: true; the input reads as it did. -/
def incrStraightUptoRow : OpenClaim := { program := "ytnieamciihdfpaagreat", sum := "34b7ac736f9f901ca9ae3be47e75ae2900d095c5ded2803c5191288954e7f6f8", func := "watershed/watershedkeep.IncrStraight", spec := "incrStraight", unfollowed := true, recurses := true, plainKeys := false, apart := false, narrowed := true }
def IncrStraightUptoSaid : Prop := incrStraightUptoRow.holds Tryz.pinned (OpenSpec.upto incrStraightSpec)

/-- 'watershedkeep.IncrRight', WHERE WHAT IT READS IS OF BULK AT MOST 1048576: true; the input reads as it did. -/
def incrRightUptoRow : OpenClaim := { program := "ytnieamciihdfpaagreat", sum := "34b7ac736f9f901ca9ae3be47e75ae2900d095c5ded2803c5191288954e7f6f8", func := "watershed/watershedkeep.IncrRight", spec := "incrRight", unfollowed := true, recurses := true, plainKeys := false, apart := false, narrowed := true }
def IncrRightUptoSaid : Prop := incrRightUptoRow.holds Tryz.pinned (OpenSpec.upto incrRightSpec)

/-- 'watershedkeep.IncrChain', WHERE WHAT IT READS IS OF BULK AT MOST 1048576: true; the input reads as it did. -/
def incrChainUptoRow : OpenClaim := { program := "ytnieamciihdfpaagreat", sum := "34b7ac736f9f901ca9ae3be47e75ae2900d095c5ded2803c5191288954e7f6f8", func := "watershed/watershedkeep.IncrChain", spec := "incrChain", unfollowed := true, recurses := true, plainKeys := false, apart := false, narrowed := true }
def IncrChainUptoSaid : Prop := incrChainUptoRow.holds Tryz.pinned (OpenSpec.upto incrChainSpec)

/-- 'watershedkeep.LoopNested', WHERE WHAT IT READS IS OF BULK AT MOST 1048576: true; the input reads as it did. -/
def loopNestedUptoRow : OpenClaim := { program := "ytnieamciihdfpaagreat", sum := "34b7ac736f9f901ca9ae3be47e75ae2900d095c5ded2803c5191288954e7f6f8", func := "watershed/watershedkeep.LoopNested", spec := "loopNested", inPlace := ["maps.clone"], unfollowed := true, recurses := true, plainKeys := false, apart := false, narrowed := true }
def LoopNestedUptoSaid : Prop := loopNestedUptoRow.holds Tryz.pinned (OpenSpec.upto loopNestedSpec)

end Rows
end Go.Proofs.YtnieamciihdfpaaGreat
