import Derived.Test.YtgnnhemoocfclaaDoorAbsLp
import Derived.Test.YtgnnhemoocfclaaDoorAbsOpn
import Derived.Test.YtgnnhemoocfclaaDoorProg
import Derived.KernelRfl
noncomputable section
namespace Go.Proofs.YtgnnhemoocfclaaDoor
open Go.Abs
def qw(f:Func):Code:=f.body.getD .skip
def tab:List Int:=[0,1,56,2,57,49,28,3,61,58,42,50,38,29,17,4,62,47,59,36,45,43,51,22,53,39,33,30,24,18,12,5,63,55,48,27,60,41,37,16,46,35,44,21,52,32,23,11,54,26,40,15,34,20,31,10,25,14,19,9,13,8,7,6]
def Gs:List (Nat×List Value):=[(0,tab.map fun z=>.int .u8 z)]
abbrev qgZ:List Kd:=[.dat (.int .i64)]
abbrev qgY:List Kd:=[.dat (.int .u32)]
abbrev qpq:Type:=Dens qgY
def qxz(_N:Nat):Ctx:={ T:=[],G:=findE [],I:=findI [],N:=_N,n:=5,fx:=[],fl:=0,gs:=Gs }
def qqr(_N:Nat)(_x1:Int):Option qpq:=
 (bif (decide (_x1<0)) then none else (some ((ishl .u32 (1:Int) _x1),())))
def qce(_N:Nat)(_x:Dens qgZ):Option qpq:=qqr _N _x.1
theorem quB(_N:Nat):SpecD Tryd.prog Gs 87 qgZ qgY (qce _N):=mkSpD (fn:=Tryd.f87) (c:=qw Tryd.f87) (C:=qxz _N)
  (a:=.none)
  (by kernel_rfl) rfl (by kernel_rfl) (by kernel_rfl) ⟨rfl,by unfold TOk;kernel_rfl,qar rfl rfl (zC _),qaq rfl rfl (zC _),rfl⟩ (fun _x=>by kernel_rfl)
theorem qpd(_N:Nat):EntOk Tryd.prog Gs (mkP 87 qgZ qgY (qce _N)):=entP ⟨Tryd.f87,qw Tryd.f87,by kernel_rfl,by kernel_rfl,rfl⟩ (by kernel_rfl) (quB _N)
abbrev qdj:List Kd:=[.dat (.int .u32),.dat (.int .i64)]
abbrev qdh:List Kd:=[.dat (.bool)]
abbrev qhp:Type:=Dens qdh
def qmP(_N:Nat):Ctx:={ T:=[],G:=findE [],I:=findI [],N:=_N,n:=10,fx:=[],fl:=0,gs:=Gs }
def qhP(_N:Nat)(_x1:Int)(_x2:Int):Option qhp:=
 (bif (decide (_x2<0)) then none else (some (((iand .u32 (ishr .u32 _x1 _x2) (1:Int))==(1:Int)),())))
def qbU(_N:Nat)(_x:Dens qdj):Option qhp:=qhP _N _x.1 _x.2.1
theorem qln(_N:Nat):SpecD Tryd.prog Gs 90 qdj qdh (qbU _N):=mkSpD (fn:=Tryd.f90) (c:=qw Tryd.f90) (C:=qmP _N)
  (a:=.none)
  (by kernel_rfl) rfl (by kernel_rfl) (by kernel_rfl) ⟨rfl,by unfold TOk;kernel_rfl,qar rfl rfl (zC _),qaq rfl rfl (zC _),rfl⟩ (fun _x=>by kernel_rfl)
theorem qlV(_N:Nat):EntOk Tryd.prog Gs (mkP 90 qdj qdh (qbU _N)):=entP ⟨Tryd.f90,qw Tryd.f90,by kernel_rfl,by kernel_rfl,rfl⟩ (by kernel_rfl) (qln _N)
abbrev qbZ:List Kd:=[.dat (.int .u32)]
abbrev qgX:Type:=Int
def qmg(_N:Nat):Ctx:={ T:=[],G:=findE [],I:=findI [],N:=_N,n:=4,fx:=[],fl:=0,gs:=Gs }
def qlq(_N:Nat)(_x1:Int):Option qgX:=
 (some _x1)
def qaD(_N:Nat)(_x:Dens qbZ):Option qgX:=qlq _N _x.1
theorem qkG(_N:Nat):SpecB Tryd.prog Gs 88 qbZ 103 (.int .u32) (qaD _N):=mkSpB (fn:=Tryd.f88) (c:=qw Tryd.f88) (C:=qmg _N)
  (a:=.none)
  (by kernel_rfl) rfl (by kernel_rfl) (by kernel_rfl) ⟨rfl,by unfold TOk;kernel_rfl,qar rfl rfl (zC _),qaq rfl rfl (zC _),rfl⟩ (fun _x=>by kernel_rfl)
theorem qgP(_N:Nat):EntOk Tryd.prog Gs (mkB 88 qbZ 103 (.int .u32) (qaD _N)):=entB ⟨Tryd.f88,qw Tryd.f88,by kernel_rfl,by kernel_rfl,rfl⟩ (qkG _N)
end Go.Proofs.YtgnnhemoocfclaaDoor
end
