import Derived.Test.YtnhjpicdijeagaaDoorCards
import Derived.Test.YtnhjpicdijeagaaDoorTie
import Derived.Test.YtnhjpicdijeagaaDoorGhG
import Derived.Test.YtnhjpicdijeagaaDoorAbsOpn
import Derived.ProofKit
import Derived.LaidMore
import Derived.OpenShut
import Derived.Stop.Joined
import Derived.SizedLaws
import Derived.SevenTiedAt
import Derived.Lib.LaidTab
namespace Go.Proofs.YtnhjpicdijeagaaDoor
open Go Go.ChangeShapes Go.WideShapes Go.ChangeAt Go.WideMaps Go.WideElems Go.RowKit Go.Abs
theorem own:ownKnob Tryd.prog.godebug=none:=by kernel_rfl
theorem laidOut:laidOutB Tryd.prog=true:=by kernel_rfl
abbrev laidL : List (String × DataW Unit) := [("math/bits.deBruijn64tab", Rows.laid_math_bits_deBruijn64tab)]
theorem door_met(os:Os)(args:Array Value):laidMetH Tryd.prog laidL ((World.doorLaid Tryd.prog 400 os).forCall (fun _ _=>0) ⟨#[],args,[]⟩).memory:=
 laidMetH_of_parts3 (fuel:=8) (laidMet_of_run' 8 (by kernel_rfl) (by kernel_rfl)) (by kernel_rfl) (by kernel_rfl)
theorem gName : Tryd.prog.globalNamed "math/bits.deBruijn64tab" = some 0 := by kernel_rfl
theorem gType:(Tryd.prog.globals[0]?).map (·.type)=some 163:=by kernel_rfl
theorem gw_of{W:World}(h:laidMetH Tryd.prog laidL W):GW Gs W:=by
 rw [MakeChecks.laidMetH_plain _ _ _ (by kernel_rfl)] at h
 have hT : Lib.TabIs Tryd.prog W "math/bits.deBruijn64tab" .u8 tab := Lib.tabIs_of_head gName gType (show Tryd.prog.underlying 163 = some (.array 64 5) by kernel_rfl) (show Tryd.prog.underlying 5 = some (.int .u8) by kernel_rfl) (by kernel_rfl) (by kernel_rfl) h
 intro p hp
 simp only [Gs,zAG] at hp
 subst hp
 have hc:qkD W 0 0 (tab.map fun z=>.int .u8 z):=fun j v hj=>by
  rw [zAb] at hj
  obtain⟨z,hz,rfl⟩:=zw.1 hj
  obtain⟨hlt,rfl⟩:=zS.1 hz
  have:=hT.cell gName j hlt
  rw [Nat.zero_add,this,zK,zW hlt]
  rfl
 refine⟨?_,hc⟩
 obtain⟨o,ho,_⟩:=cells_of_cell (hc 0 _ rfl)
 exact (zI.1 ho).1
end Go.Proofs.YtnhjpicdijeagaaDoor
