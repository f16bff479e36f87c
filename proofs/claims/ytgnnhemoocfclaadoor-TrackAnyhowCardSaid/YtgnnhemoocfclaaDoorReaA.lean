import Derived.Test.YtgnnhemoocfclaaDoorReaS
import Derived.Test.YtgnnhemoocfclaaDoorAbsPtr
import Derived.Test.YtgnnhemoocfclaaDoorReaM
import Derived.RangeFuncBox
import Derived.RangeFuncLeaves
import Derived.Shelf.Abstract
import Derived.WalkKit
import Derived.OwnWalkIn
import Derived.TacticsInMore
import Derived.LoopNIn
import Derived.LoopIn
import Derived.Deep.MidRow
import Derived.Deep.WholeRow
namespace Go.Proofs.YtgnnhemoocfclaaDoor
open Go.Abs
abbrev SI:Sh:=.pair (.int .i64) (.sl (.int .i64))
abbrev SH:Sh:=.sl (.pair (.int .i64) (.pair (.int .i64) (.int .i64)))
abbrev SG:Sh:=.pair (.int .i64) (.pair (.int .i64) (.pair (.int .i64) (.pair (.int .i64) (.int .i64))))
abbrev qep:List Kd:=[.dat (.pair (.sl SG) SH),.dat SI]
abbrev qei:List Kd:=[.dat (.int .i64)]
abbrev qiV:Type:=Dens qei
noncomputable def qqT(_N:Nat):Ctx:={ T:=[(3,⟨.int .i64,1,8,some (.int .i64),[.int .i64 (0:Int)],false,[]⟩),(22,⟨.slice 37,1,24,some (.sl SG),[.nil],false,[]⟩),(25,⟨.struct [(0,22),(1,23)],2,48,some (.pair (.sl SG) SH),[.nil,.nil],false,[]⟩),(37,⟨.struct [(0,3),(1,3),(2,35)],5,40,some SG,[.int .i64 (0:Int),.int .i64 (0:Int),.int .i64 (0:Int),.int .i64 (0:Int),.int .i64 (0:Int)],true,[]⟩),(38,⟨.slice 3,1,24,some (.sl (.int .i64)),[.nil],false,[]⟩),(52,⟨.struct [(0,3),(1,38)],2,32,some SI,[.int .i64 (0:Int),.nil],false,[]⟩)],G:=findE [mkP 42 qen qeg (qcG _N)],I:=findI [],N:=_N,n:=34,fx:=[],fl:=0,gs:=Gs }
noncomputable def qjO(_N:Nat)(_x1:List (Int×Int×Int×Int×Int)×List (Int×Int×Int))(_x2:Int×List Int):Option qiV:=
 (bif (decide (_x2.1<(0:Int))) then (some ((2:Int),())) else (bif (decide (_x2.1>=(_x1.1.length:Int))) then (some ((2:Int),())) else ((qcG _N (_x2.2,())).bind fun _y2=>(bif (_y2.1 != (0:Int)) then (some (_y2.1,())) else (bif (decide (0<=_x2.1)&&decide (_x2.1<(_x1.1.length:Int))) then (bif ((_x2.2.length:Int) != (((nth ((0:Int),((0:Int),((0:Int),((0:Int),(0:Int))))) _x1.1 (_x2.1).toNat).2).1)) then (some ((7:Int),())) else (some ((0:Int),()))) else none)))))
noncomputable def qcI(_N:Nat)(_x:Dens qep):Option qiV:=qjO _N _x.1 _x.2.1
theorem qoe(_N:Nat):SpecD Tryd.prog Gs 38 qep qei (qcI _N):=mkSpD (fn:=Tryd.f38) (c:=qB Tryd.f38) (C:=qqT _N)
  (a:=.two .none (.two .none (.two .none (.two (.two (.draw 0 [.pure,.rd [1],.pure,.pure,.rd [0],.pure,.rd [1],.pure,.pure,.pure,.pure]) .none) .none))))
  (by kernel_rfl) rfl (by kernel_rfl) (by kernel_rfl) ⟨rfl,by unfold TOk;kernel_rfl,qax rfl rfl (zG.2 ⟨qoA _N,(zD _)⟩),qaw rfl rfl (zD _),rfl⟩ (fun _x=>by kernel_rfl)
theorem qoC(_N:Nat):EntOk Tryd.prog Gs (mkP 38 qep qei (qcI _N)):=entP ⟨Tryd.f38,qB Tryd.f38,by kernel_rfl,by kernel_rfl,rfl⟩ (by kernel_rfl) (qoe _N)
end Go.Proofs.YtgnnhemoocfclaaDoor
namespace Go.Proofs.YtgnnhemoocfclaaDoor
open Go.Abs Go.RowKit Go.Shelf
attribute [local go_sem] Oper.semAt_some
structure ArrJ (n l b2 q2:Nat) (ta:Option Addr) (tn tc len:Nat) (Post:World->Prop) (rv:Option Addr) (cap:Nat) (w':World):Prop where
 ex:∃ (J:Nat->World->Prop) (Jx:World->Prop) (bR qR:Nat) (e0 e1:Nat->Int) (ea:Nat->Option Addr) (en ec:Nat->Nat) (er:Nat->Int) (yv:Nat->World->World->Value->Prop) (cnt:Nat->Nat),
  (∀ i X,J i X->X.cell? ⟨b2,q2+1,none⟩=some (.slice ta tn tc))/\(len≠0->rv=some ⟨bR,qR,none⟩)/\(len<=cap/\cap<=maxI)/\cnt 0=0/\(∀ k,k<len->er k=0->cnt (k+1)=cnt k+1)/\(∀ k,k<len->er k≠0->cnt (k+1)=cnt k)/\(∀ i X Y,J i X->Go.Abs.Below X.heap.size X Y->J i Y) /\
  (∀ i X,J i X->∀ k,k<len->X.cell? ⟨bR,qR+k*3,none⟩=some (.int .i64 (e0 k))/\X.cell? ⟨bR,qR+k*3+1,none⟩=some (.int .i64 (e1 k))/\X.cell? ⟨bR,qR+k*3+2,none⟩=some (.slice (ea k) (en k) (ec k))) /\
  (∀ i X X1 k,J i X->k<len->Go.Abs.Below X.heap.size X X1->Calls Tryd.prog 20 #[.agg #[.int .i64 (e0 k),.int .i64 (e1 k),.slice (ea k) (en k) (ec k)],.slice ta tn tc] X1 fun e w'=>∃ ya yn yc,e=.returned (.tuple #[.slice ya yn yc,.int .i64 (er k)])/\Go.Abs.Below X1.heap.size X1 w'/\(er k=0->yv k X w' (.slice ya yn yc))) /\
  (∀ k X0 X v,J (cnt k) X0->k<len->er k=0->Go.Abs.Below X0.heap.size X0 X->yv k X0 X v->YieldAt Fence.wide (n - 1) Tryd.prog l #[v] X fun e W'=>(e=.returned (.bool true)/\J (cnt k+1) W')\/(e=.returned (.bool false)/\Jx W')) /\
  (∀ W',J (cnt len) W'\/Jx W'->Post W')/\J 0 w'
end Go.Proofs.YtgnnhemoocfclaaDoor
