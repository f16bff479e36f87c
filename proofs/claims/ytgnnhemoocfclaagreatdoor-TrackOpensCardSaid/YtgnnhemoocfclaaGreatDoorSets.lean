import Derived.Test.YtgnnhemoocfclaaGreatDoorAbsLp
import Derived.Test.YtgnnhemoocfclaaGreatDoorAbsOpn
import Derived.Test.YtgnnhemoocfclaaGreatDoorProg
import Derived.KernelRfl
noncomputable section
namespace Go.Proofs.YtgnnhemoocfclaaGreatDoor
open Go.Abs
def qj(f:Func):Code:=f.body.getD .skip
def tab:List Int:=[0,1,56,2,57,49,28,3,61,58,42,50,38,29,17,4,62,47,59,36,45,43,51,22,53,39,33,30,24,18,12,5,63,55,48,27,60,41,37,16,46,35,44,21,52,32,23,11,54,26,40,15,34,20,31,10,25,14,19,9,13,8,7,6]
def Gs:List (Nat×List Value):=[(0,tab.map fun z=>.int .u8 z)]
abbrev qiA:List Kd:=[.dat (.int .i64)]
abbrev qiz:List Kd:=[.dat (.int .u32)]
abbrev qsq:Type:=Dens qiz
def qBc(_N:Nat):Ctx:={ T:=[],G:=findE [],I:=findI [],N:=_N,n:=5,fx:=[],fl:=0,gs:=Gs }
def qtA(_N:Nat)(_x1:Int):Option qsq:=
 (bif (decide (_x1<0)) then none else (some ((ishl .u32 (1:Int) _x1),())))
def qcv(_N:Nat)(_x:Dens qiA):Option qsq:=qtA _N _x.1
theorem qxQ(_N:Nat):SpecD Tryz.prog Gs 78 qiA qiz (qcv _N):=mkSpD (fn:=Tryz.f78) (c:=qj Tryz.f78) (C:=qBc _N)
  (a:=.none)
  (by kernel_rfl) rfl (by kernel_rfl) (by kernel_rfl) ⟨rfl,by unfold TOk;kernel_rfl,qag rfl rfl (zC _),qaf rfl rfl (zC _),rfl⟩ (fun _x=>by kernel_rfl)
theorem qsd(_N:Nat):EntOk Tryz.prog Gs (mkP 78 qiA qiz (qcv _N)):=entP ⟨Tryz.f78,qj Tryz.f78,by kernel_rfl,by kernel_rfl,rfl⟩ (by kernel_rfl) (qxQ _N)
abbrev qdF:List Kd:=[.dat (.int .u32),.dat (.int .i64)]
abbrev qdD:List Kd:=[.dat (.bool)]
abbrev qiP:Type:=Dens qdD
def qpl(_N:Nat):Ctx:={ T:=[],G:=findE [],I:=findI [],N:=_N,n:=10,fx:=[],fl:=0,gs:=Gs }
def qjp(_N:Nat)(_x1:Int)(_x2:Int):Option qiP:=
 (bif (decide (_x2<0)) then none else (some (((iand .u32 (ishr .u32 _x1 _x2) (1:Int))==(1:Int)),())))
def qcj(_N:Nat)(_x:Dens qdF):Option qiP:=qjp _N _x.1 _x.2.1
theorem qnA(_N:Nat):SpecD Tryz.prog Gs 81 qdF qdD (qcj _N):=mkSpD (fn:=Tryz.f81) (c:=qj Tryz.f81) (C:=qpl _N)
  (a:=.none)
  (by kernel_rfl) rfl (by kernel_rfl) (by kernel_rfl) ⟨rfl,by unfold TOk;kernel_rfl,qag rfl rfl (zC _),qaf rfl rfl (zC _),rfl⟩ (fun _x=>by kernel_rfl)
theorem qoi(_N:Nat):EntOk Tryz.prog Gs (mkP 81 qdF qdD (qcj _N)):=entP ⟨Tryz.f81,qj Tryz.f81,by kernel_rfl,by kernel_rfl,rfl⟩ (by kernel_rfl) (qnA _N)
abbrev qco:List Kd:=[.dat (.int .u32)]
abbrev qiy:Type:=Int
def qow(_N:Nat):Ctx:={ T:=[],G:=findE [],I:=findI [],N:=_N,n:=4,fx:=[],fl:=0,gs:=Gs }
def qnD(_N:Nat)(_x1:Int):Option qiy:=
 (some _x1)
def qaM(_N:Nat)(_x:Dens qco):Option qiy:=qnD _N _x.1
theorem qmQ(_N:Nat):SpecB Tryz.prog Gs 79 qco 97 (.int .u32) (qaM _N):=mkSpB (fn:=Tryz.f79) (c:=qj Tryz.f79) (C:=qow _N)
  (a:=.none)
  (by kernel_rfl) rfl (by kernel_rfl) (by kernel_rfl) ⟨rfl,by unfold TOk;kernel_rfl,qag rfl rfl (zC _),qaf rfl rfl (zC _),rfl⟩ (fun _x=>by kernel_rfl)
theorem qip(_N:Nat):EntOk Tryz.prog Gs (mkB 79 qco 97 (.int .u32) (qaM _N)):=entB ⟨Tryz.f79,qj Tryz.f79,by kernel_rfl,by kernel_rfl,rfl⟩ (qmQ _N)
end Go.Proofs.YtgnnhemoocfclaaGreatDoor
end
