/-
  NARROWER THAN 'FOR EVERY INPUT', by the rows' own cells (each row's printed sentence says how): ReachKleene: laid · ReachWalks: laid · ReachTriangle: laid · ReachApart: laid · ReachLater: laid · ReachSteps: laid · ReachOpens: laid · TrackAnyhow: laid.
  DERIVED. THE GIVEN ROWS OF THIS SEAT. 8 by the template 'for every input the law returns true; each argument reads behind the call as it read before'; 0 by the template 'total and deterministic' (their statements: YtgnnhemoocfclaaDoorTotals.lean).
  GIVEN WITH THE SEED: the statements are not yours to turn. If you find one false, say at which input.
  Laid BY PROGRAM, IN A SANDBOX (cutbox-rows.mjs): the forced cells as the released guide's own fill.sh prints them over the translation de1791b2879d5a94… (all of the seat's roots in one cut). By AI agents, Wed Nov 11 2026. No macro, syntax, notation, axiom, sorry.
-/
import Derived.Test.YtgnnhemoocfclaaDoorChecked
import GoSem.Claim
import GoSem.ClaimJoined
import GoSem.ClaimMapViews
import Derived.JoinedTies
import Derived.KernelRfl
namespace Go.Proofs.YtgnnhemoocfclaaDoor
/- THE CELL 'sum', in the pinned program and in every row, IS THE sha256 OF THE DUMP (.gsa) THAT YtgnnhemoocfclaaDoorProg.lean LOADS. Nothing in Lean hashes anything: it is a label: what it is worth is what the hold of that sum in a sandbox is worth. -/
noncomputable def Tryd.pinned : Pinned := { name := "ytgnnhemoocfclaadoor", sum := "de1791b2879d5a94b3d7141e1aebc29843d4654729f5a3e9f626f6e8b4450c6a", checked := Tryd.checked }
namespace Rows
def none {H : Type} : Left H := { results := [], args := [] }

/- WHAT THE LISTED PACKAGE-LEVEL VARIABLES READ AS WHEN THE CALL BEGINS. Each datum BY PROGRAM (the guide's laid-datum.mjs) off the statement by which the dump's own 'gosem.cut.vars' lays the variable. In a bare row this is a premise. The card (YtgnnhemoocfclaaDoorCards.lean) ties it to the program's text. -/
def laid_math_bits_deBruijn64tab {H : Type} : DataW H := .agg [.lit (.int .u8 0), .lit (.int .u8 1), .lit (.int .u8 56), .lit (.int .u8 2), .lit (.int .u8 57), .lit (.int .u8 49), .lit (.int .u8 28), .lit (.int .u8 3), .lit (.int .u8 61), .lit (.int .u8 58), .lit (.int .u8 42), .lit (.int .u8 50), .lit (.int .u8 38), .lit (.int .u8 29), .lit (.int .u8 17), .lit (.int .u8 4), .lit (.int .u8 62), .lit (.int .u8 47), .lit (.int .u8 59), .lit (.int .u8 36), .lit (.int .u8 45), .lit (.int .u8 43), .lit (.int .u8 51), .lit (.int .u8 22), .lit (.int .u8 53), .lit (.int .u8 39), .lit (.int .u8 33), .lit (.int .u8 30), .lit (.int .u8 24), .lit (.int .u8 18), .lit (.int .u8 12), .lit (.int .u8 5), .lit (.int .u8 63), .lit (.int .u8 55), .lit (.int .u8 48), .lit (.int .u8 27), .lit (.int .u8 60), .lit (.int .u8 41), .lit (.int .u8 37), .lit (.int .u8 16), .lit (.int .u8 46), .lit (.int .u8 35), .lit (.int .u8 44), .lit (.int .u8 21), .lit (.int .u8 52), .lit (.int .u8 32), .lit (.int .u8 23), .lit (.int .u8 11), .lit (.int .u8 54), .lit (.int .u8 26), .lit (.int .u8 40), .lit (.int .u8 15), .lit (.int .u8 34), .lit (.int .u8 20), .lit (.int .u8 31), .lit (.int .u8 10), .lit (.int .u8 25), .lit (.int .u8 14), .lit (.int .u8 19), .lit (.int .u8 9), .lit (.int .u8 13), .lit (.int .u8 8), .lit (.int .u8 7), .lit (.int .u8 6)]

/-- 'watershedkeep.ReachKleene': WHATEVER THE INPUT: true; the input reads as it did. -/
def reachKleeneSpec : ChangeSpec := { name := "reachKleene", fn := fun _ => fun
  | [d] => { results := [.lit (.bool true)], args := [d] }
  | _ => none }
def reachKleeneRow : OpenClaim := { program := "ytgnnhemoocfclaadoor", sum := "de1791b2879d5a94b3d7141e1aebc29843d4654729f5a3e9f626f6e8b4450c6a", func := "watershed/watershedkeep.ReachKleene", spec := "reachKleene", unfollowed := true, recurses := true, named := ["math/bits.deBruijn64tab"], plainKeys := false, apart := false, laid := [("math/bits.deBruijn64tab", laid_math_bits_deBruijn64tab)] }
def ReachKleeneSaid : Prop := reachKleeneRow.holds Tryd.pinned (OpenSpec.ofChange reachKleeneSpec)

/-- ITS FALSE NEIGHBOUR: 'it returns false'. Refute it at one input. -/
def reachKleeneWrong : ChangeSpec := { name := "reachKleene", fn := fun _ => fun
  | [d] => { results := [.lit (.bool false)], args := [d] }
  | _ => none }
def ReachKleeneWrongFalsely : Prop := reachKleeneRow.holds Tryd.pinned (OpenSpec.ofChange reachKleeneWrong)

/-- 'watershedkeep.ReachWalks': WHATEVER THE INPUT: true; the input reads as it did. -/
def reachWalksSpec : ChangeSpec := { name := "reachWalks", fn := fun _ => fun
  | [d1, d2, d3] => { results := [.lit (.bool true)], args := [d1, d2, d3] }
  | _ => none }
def reachWalksRow : OpenClaim := { program := "ytgnnhemoocfclaadoor", sum := "de1791b2879d5a94b3d7141e1aebc29843d4654729f5a3e9f626f6e8b4450c6a", func := "watershed/watershedkeep.ReachWalks", spec := "reachWalks", unfollowed := true, recurses := true, named := ["math/bits.deBruijn64tab"], plainKeys := false, apart := false, laid := [("math/bits.deBruijn64tab", laid_math_bits_deBruijn64tab)] }
def ReachWalksSaid : Prop := reachWalksRow.holds Tryd.pinned (OpenSpec.ofChange reachWalksSpec)

/-- ITS FALSE NEIGHBOUR: 'it returns false'. Refute it at one input. -/
def reachWalksWrong : ChangeSpec := { name := "reachWalks", fn := fun _ => fun
  | [d1, d2, d3] => { results := [.lit (.bool false)], args := [d1, d2, d3] }
  | _ => none }
def ReachWalksWrongFalsely : Prop := reachWalksRow.holds Tryd.pinned (OpenSpec.ofChange reachWalksWrong)

/-- 'watershedkeep.ReachTriangle': WHATEVER THE INPUT: true; the input reads as it did. -/
def reachTriangleSpec : ChangeSpec := { name := "reachTriangle", fn := fun _ => fun
  | [d1, d2, d3, d4] => { results := [.lit (.bool true)], args := [d1, d2, d3, d4] }
  | _ => none }
def reachTriangleRow : OpenClaim := { program := "ytgnnhemoocfclaadoor", sum := "de1791b2879d5a94b3d7141e1aebc29843d4654729f5a3e9f626f6e8b4450c6a", func := "watershed/watershedkeep.ReachTriangle", spec := "reachTriangle", unfollowed := true, recurses := true, named := ["math/bits.deBruijn64tab"], plainKeys := false, apart := false, laid := [("math/bits.deBruijn64tab", laid_math_bits_deBruijn64tab)] }
def ReachTriangleSaid : Prop := reachTriangleRow.holds Tryd.pinned (OpenSpec.ofChange reachTriangleSpec)

/-- ITS FALSE NEIGHBOUR: 'it returns false'. Refute it at one input. -/
def reachTriangleWrong : ChangeSpec := { name := "reachTriangle", fn := fun _ => fun
  | [d1, d2, d3, d4] => { results := [.lit (.bool false)], args := [d1, d2, d3, d4] }
  | _ => none }
def ReachTriangleWrongFalsely : Prop := reachTriangleRow.holds Tryd.pinned (OpenSpec.ofChange reachTriangleWrong)

/-- 'watershedkeep.ReachApart': WHATEVER THE INPUT: true; the input reads as it did. -/
def reachApartSpec : ChangeSpec := { name := "reachApart", fn := fun _ => fun
  | [d1, d2, d3] => { results := [.lit (.bool true)], args := [d1, d2, d3] }
  | _ => none }
def reachApartRow : OpenClaim := { program := "ytgnnhemoocfclaadoor", sum := "de1791b2879d5a94b3d7141e1aebc29843d4654729f5a3e9f626f6e8b4450c6a", func := "watershed/watershedkeep.ReachApart", spec := "reachApart", unfollowed := true, recurses := true, named := ["math/bits.deBruijn64tab"], plainKeys := false, apart := false, laid := [("math/bits.deBruijn64tab", laid_math_bits_deBruijn64tab)] }
def ReachApartSaid : Prop := reachApartRow.holds Tryd.pinned (OpenSpec.ofChange reachApartSpec)

/-- ITS FALSE NEIGHBOUR: 'it returns false'. Refute it at one input. -/
def reachApartWrong : ChangeSpec := { name := "reachApart", fn := fun _ => fun
  | [d1, d2, d3] => { results := [.lit (.bool false)], args := [d1, d2, d3] }
  | _ => none }
def ReachApartWrongFalsely : Prop := reachApartRow.holds Tryd.pinned (OpenSpec.ofChange reachApartWrong)

/-- 'watershedkeep.ReachLater': WHATEVER THE INPUT: true; the input reads as it did. -/
def reachLaterSpec : ChangeSpec := { name := "reachLater", fn := fun _ => fun
  | [d1, d2, d3, d4, d5] => { results := [.lit (.bool true)], args := [d1, d2, d3, d4, d5] }
  | _ => none }
def reachLaterRow : OpenClaim := { program := "ytgnnhemoocfclaadoor", sum := "de1791b2879d5a94b3d7141e1aebc29843d4654729f5a3e9f626f6e8b4450c6a", func := "watershed/watershedkeep.ReachLater", spec := "reachLater", unfollowed := true, recurses := true, named := ["math/bits.deBruijn64tab"], plainKeys := false, apart := false, laid := [("math/bits.deBruijn64tab", laid_math_bits_deBruijn64tab)] }
def ReachLaterSaid : Prop := reachLaterRow.holds Tryd.pinned (OpenSpec.ofChange reachLaterSpec)

/-- ITS FALSE NEIGHBOUR: 'it returns false'. Refute it at one input. -/
def reachLaterWrong : ChangeSpec := { name := "reachLater", fn := fun _ => fun
  | [d1, d2, d3, d4, d5] => { results := [.lit (.bool false)], args := [d1, d2, d3, d4, d5] }
  | _ => none }
def ReachLaterWrongFalsely : Prop := reachLaterRow.holds Tryd.pinned (OpenSpec.ofChange reachLaterWrong)

/-- 'watershedkeep.ReachSteps': WHATEVER THE INPUT: true; the input reads as it did. -/
def reachStepsSpec : ChangeSpec := { name := "reachSteps", fn := fun _ => fun
  | [d1, d2, d3] => { results := [.lit (.bool true)], args := [d1, d2, d3] }
  | _ => none }
def reachStepsRow : OpenClaim := { program := "ytgnnhemoocfclaadoor", sum := "de1791b2879d5a94b3d7141e1aebc29843d4654729f5a3e9f626f6e8b4450c6a", func := "watershed/watershedkeep.ReachSteps", spec := "reachSteps", unfollowed := true, recurses := true, named := ["math/bits.deBruijn64tab"], plainKeys := false, apart := false, laid := [("math/bits.deBruijn64tab", laid_math_bits_deBruijn64tab)] }
def ReachStepsSaid : Prop := reachStepsRow.holds Tryd.pinned (OpenSpec.ofChange reachStepsSpec)

/-- ITS FALSE NEIGHBOUR: 'it returns false'. Refute it at one input. -/
def reachStepsWrong : ChangeSpec := { name := "reachSteps", fn := fun _ => fun
  | [d1, d2, d3] => { results := [.lit (.bool false)], args := [d1, d2, d3] }
  | _ => none }
def ReachStepsWrongFalsely : Prop := reachStepsRow.holds Tryd.pinned (OpenSpec.ofChange reachStepsWrong)

/-- 'watershedkeep.ReachOpens': WHATEVER THE INPUT: true; the input reads as it did. -/
def reachOpensSpec : ChangeSpec := { name := "reachOpens", fn := fun _ => fun
  | [d1, d2, d3] => { results := [.lit (.bool true)], args := [d1, d2, d3] }
  | _ => none }
def reachOpensRow : OpenClaim := { program := "ytgnnhemoocfclaadoor", sum := "de1791b2879d5a94b3d7141e1aebc29843d4654729f5a3e9f626f6e8b4450c6a", func := "watershed/watershedkeep.ReachOpens", spec := "reachOpens", unfollowed := true, recurses := true, named := ["math/bits.deBruijn64tab"], plainKeys := false, apart := false, laid := [("math/bits.deBruijn64tab", laid_math_bits_deBruijn64tab)] }
def ReachOpensSaid : Prop := reachOpensRow.holds Tryd.pinned (OpenSpec.ofChange reachOpensSpec)

/-- ITS FALSE NEIGHBOUR: 'it returns false'. Refute it at one input. -/
def reachOpensWrong : ChangeSpec := { name := "reachOpens", fn := fun _ => fun
  | [d1, d2, d3] => { results := [.lit (.bool false)], args := [d1, d2, d3] }
  | _ => none }
def ReachOpensWrongFalsely : Prop := reachOpensRow.holds Tryd.pinned (OpenSpec.ofChange reachOpensWrong)

/-- 'watershedkeep.TrackAnyhow': WHATEVER THE INPUT: true; the input reads as it did. -/
def trackAnyhowSpec : ChangeSpec := { name := "trackAnyhow", fn := fun _ => fun
  | [d1, d2, d3] => { results := [.lit (.bool true)], args := [d1, d2, d3] }
  | _ => none }
def trackAnyhowRow : OpenClaim := { program := "ytgnnhemoocfclaadoor", sum := "de1791b2879d5a94b3d7141e1aebc29843d4654729f5a3e9f626f6e8b4450c6a", func := "watershed/watershedkeep.TrackAnyhow", spec := "trackAnyhow", unfollowed := true, recurses := true, named := ["math/bits.deBruijn64tab"], plainKeys := false, apart := false, laid := [("math/bits.deBruijn64tab", laid_math_bits_deBruijn64tab)] }
def TrackAnyhowSaid : Prop := trackAnyhowRow.holds Tryd.pinned (OpenSpec.ofChange trackAnyhowSpec)

/-- ITS FALSE NEIGHBOUR: 'it returns false'. Refute it at one input. -/
def trackAnyhowWrong : ChangeSpec := { name := "trackAnyhow", fn := fun _ => fun
  | [d1, d2, d3] => { results := [.lit (.bool false)], args := [d1, d2, d3] }
  | _ => none }
def TrackAnyhowWrongFalsely : Prop := trackAnyhowRow.holds Tryd.pinned (OpenSpec.ofChange trackAnyhowWrong)

/- THE SECOND FORM. 'bulk': how many values and letters a reading holds, each counted each time it is reached (what is shared counts as often as it is met; a slice's spare places count too). A statement '..UptoSaid' is the law's where the arguments, and the package variables that the reading takes, are together of bulk at most 1048576: NARROWER than '..Said'. Prove '..Said' where nothing that the law and all that it calls make is longer than what came in: it says more and counts as full. Else prove '..UptoSaid'. A law counts once. -/
mutual
def uptoBulk {H : Type} : DataW H → Nat
  | .lit (.string bytes) => bytes.length + 1
  | .lit _ => 1
  | .nil => 1
  | .ptr d => uptoBulk d + 1
  | .slice elems spare => uptoBulkAll elems + uptoBulkAll spare + 1
  | .agg parts => uptoBulkAll parts + 1
  | .iface _ d => uptoBulk d + 1
  | .map entries => uptoBulkEntries entries + 1
  | .held _ => 1
def uptoBulkAll {H : Type} : List (DataW H) → Nat
  | [] => 0
  | d :: r => uptoBulk d + uptoBulkAll r
def uptoBulkEntries {H : Type} : List (Lit × DataW H) → Nat
  | [] => 0
  | x :: r => uptoBulkEntry x + uptoBulkEntries r
def uptoBulkEntry {H : Type} : Lit × DataW H → Nat
  | (.string bytes, d) => bytes.length + uptoBulk d + 1
  | (_, d) => uptoBulk d + 1
 end
def uptoSmall : (H : Type) → List (DataW H) → Bool := fun _ ds => decide (uptoBulkAll ds ≤ 1048576)
def OpenSpec.upto (s : _root_.Go.ChangeSpec) : _root_.Go.OpenSpec := { _root_.Go.OpenSpec.ofChange s with cond := some uptoSmall }

/-- 'watershedkeep.ReachKleene', WHERE WHAT IT READS IS OF BULK AT MOST 1048576: true; the input reads as it did. -/
def reachKleeneUptoRow : OpenClaim := { program := "ytgnnhemoocfclaadoor", sum := "de1791b2879d5a94b3d7141e1aebc29843d4654729f5a3e9f626f6e8b4450c6a", func := "watershed/watershedkeep.ReachKleene", spec := "reachKleene", unfollowed := true, recurses := true, named := ["math/bits.deBruijn64tab"], plainKeys := false, apart := false, laid := [("math/bits.deBruijn64tab", laid_math_bits_deBruijn64tab)], narrowed := true }
def ReachKleeneUptoSaid : Prop := reachKleeneUptoRow.holds Tryd.pinned (OpenSpec.upto reachKleeneSpec)

/-- 'watershedkeep.ReachWalks', WHERE WHAT IT READS IS OF BULK AT MOST 1048576: true; the input reads as it did. -/
def reachWalksUptoRow : OpenClaim := { program := "ytgnnhemoocfclaadoor", sum := "de1791b2879d5a94b3d7141e1aebc29843d4654729f5a3e9f626f6e8b4450c6a", func := "watershed/watershedkeep.ReachWalks", spec := "reachWalks", unfollowed := true, recurses := true, named := ["math/bits.deBruijn64tab"], plainKeys := false, apart := false, laid := [("math/bits.deBruijn64tab", laid_math_bits_deBruijn64tab)], narrowed := true }
def ReachWalksUptoSaid : Prop := reachWalksUptoRow.holds Tryd.pinned (OpenSpec.upto reachWalksSpec)

/-- 'watershedkeep.ReachTriangle', WHERE WHAT IT READS IS OF BULK AT MOST 1048576: true; the input reads as it did. -/
def reachTriangleUptoRow : OpenClaim := { program := "ytgnnhemoocfclaadoor", sum := "de1791b2879d5a94b3d7141e1aebc29843d4654729f5a3e9f626f6e8b4450c6a", func := "watershed/watershedkeep.ReachTriangle", spec := "reachTriangle", unfollowed := true, recurses := true, named := ["math/bits.deBruijn64tab"], plainKeys := false, apart := false, laid := [("math/bits.deBruijn64tab", laid_math_bits_deBruijn64tab)], narrowed := true }
def ReachTriangleUptoSaid : Prop := reachTriangleUptoRow.holds Tryd.pinned (OpenSpec.upto reachTriangleSpec)

/-- 'watershedkeep.ReachApart', WHERE WHAT IT READS IS OF BULK AT MOST 1048576: true; the input reads as it did. -/
def reachApartUptoRow : OpenClaim := { program := "ytgnnhemoocfclaadoor", sum := "de1791b2879d5a94b3d7141e1aebc29843d4654729f5a3e9f626f6e8b4450c6a", func := "watershed/watershedkeep.ReachApart", spec := "reachApart", unfollowed := true, recurses := true, named := ["math/bits.deBruijn64tab"], plainKeys := false, apart := false, laid := [("math/bits.deBruijn64tab", laid_math_bits_deBruijn64tab)], narrowed := true }
def ReachApartUptoSaid : Prop := reachApartUptoRow.holds Tryd.pinned (OpenSpec.upto reachApartSpec)

/-- 'watershedkeep.ReachLater', WHERE WHAT IT READS IS OF BULK AT MOST 1048576: true; the input reads as it did. -/
def reachLaterUptoRow : OpenClaim := { program := "ytgnnhemoocfclaadoor", sum := "de1791b2879d5a94b3d7141e1aebc29843d4654729f5a3e9f626f6e8b4450c6a", func := "watershed/watershedkeep.ReachLater", spec := "reachLater", unfollowed := true, recurses := true, named := ["math/bits.deBruijn64tab"], plainKeys := false, apart := false, laid := [("math/bits.deBruijn64tab", laid_math_bits_deBruijn64tab)], narrowed := true }
def ReachLaterUptoSaid : Prop := reachLaterUptoRow.holds Tryd.pinned (OpenSpec.upto reachLaterSpec)

/-- 'watershedkeep.ReachSteps', WHERE WHAT IT READS IS OF BULK AT MOST 1048576: true; the input reads as it did. -/
def reachStepsUptoRow : OpenClaim := { program := "ytgnnhemoocfclaadoor", sum := "de1791b2879d5a94b3d7141e1aebc29843d4654729f5a3e9f626f6e8b4450c6a", func := "watershed/watershedkeep.ReachSteps", spec := "reachSteps", unfollowed := true, recurses := true, named := ["math/bits.deBruijn64tab"], plainKeys := false, apart := false, laid := [("math/bits.deBruijn64tab", laid_math_bits_deBruijn64tab)], narrowed := true }
def ReachStepsUptoSaid : Prop := reachStepsUptoRow.holds Tryd.pinned (OpenSpec.upto reachStepsSpec)

/-- 'watershedkeep.ReachOpens', WHERE WHAT IT READS IS OF BULK AT MOST 1048576: true; the input reads as it did. -/
def reachOpensUptoRow : OpenClaim := { program := "ytgnnhemoocfclaadoor", sum := "de1791b2879d5a94b3d7141e1aebc29843d4654729f5a3e9f626f6e8b4450c6a", func := "watershed/watershedkeep.ReachOpens", spec := "reachOpens", unfollowed := true, recurses := true, named := ["math/bits.deBruijn64tab"], plainKeys := false, apart := false, laid := [("math/bits.deBruijn64tab", laid_math_bits_deBruijn64tab)], narrowed := true }
def ReachOpensUptoSaid : Prop := reachOpensUptoRow.holds Tryd.pinned (OpenSpec.upto reachOpensSpec)

/-- 'watershedkeep.TrackAnyhow', WHERE WHAT IT READS IS OF BULK AT MOST 1048576: true; the input reads as it did. -/
def trackAnyhowUptoRow : OpenClaim := { program := "ytgnnhemoocfclaadoor", sum := "de1791b2879d5a94b3d7141e1aebc29843d4654729f5a3e9f626f6e8b4450c6a", func := "watershed/watershedkeep.TrackAnyhow", spec := "trackAnyhow", unfollowed := true, recurses := true, named := ["math/bits.deBruijn64tab"], plainKeys := false, apart := false, laid := [("math/bits.deBruijn64tab", laid_math_bits_deBruijn64tab)], narrowed := true }
def TrackAnyhowUptoSaid : Prop := trackAnyhowUptoRow.holds Tryd.pinned (OpenSpec.upto trackAnyhowSpec)

end Rows
end Go.Proofs.YtgnnhemoocfclaaDoor
