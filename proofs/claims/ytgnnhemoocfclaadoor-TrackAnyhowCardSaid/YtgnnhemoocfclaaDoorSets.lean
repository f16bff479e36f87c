import Derived.Test.YtgnnhemoocfclaaDoorAbsLp
import Derived.Test.YtgnnhemoocfclaaDoorAbsOpn
import Derived.Test.YtgnnhemoocfclaaDoorProg
import Derived.KernelRfl
noncomputable section
namespace Go.Proofs.YtgnnhemoocfclaaDoor
open Go.Abs
def qB(f:Func):Code:=f.body.getD .skip
def tab:List Int:=[0,1,56,2,57,49,28,3,61,58,42,50,38,29,17,4,62,47,59,36,45,43,51,22,53,39,33,30,24,18,12,5,63,55,48,27,60,41,37,16,46,35,44,21,52,32,23,11,54,26,40,15,34,20,31,10,25,14,19,9,13,8,7,6]
def Gs:List (Nat×List Value):=[(0,tab.map fun z=>.int .u8 z)]
abbrev qfQ:List Kd:=[.dat (.int .i64)]
abbrev qfO:List Kd:=[.dat (.int .u32)]
abbrev qnO:Type:=Dens qfO
def qvz(_N:Nat):Ctx:={ T:=[],G:=findE [],I:=findI [],N:=_N,n:=5,fx:=[],fl:=0,gs:=Gs }
def qoP(_N:Nat)(_x1:Int):Option qnO:=
 (bif (decide (_x1<0)) then none else (some ((ishl .u32 (1:Int) _x1),())))
def qbv(_N:Nat)(_x:Dens qfQ):Option qnO:=qoP _N _x.1
theorem qsP(_N:Nat):SpecD Tryd.prog Gs 87 qfQ qfO (qbv _N):=mkSpD (fn:=Tryd.f87) (c:=qB Tryd.f87) (C:=qvz _N)
  (a:=.none)
  (by kernel_rfl) rfl (by kernel_rfl) (by kernel_rfl) ⟨rfl,by unfold TOk;kernel_rfl,qax rfl rfl (zD _),qaw rfl rfl (zD _),rfl⟩ (fun _x=>by kernel_rfl)
theorem qnC(_N:Nat):EntOk Tryd.prog Gs (mkP 87 qfQ qfO (qbv _N)):=entP ⟨Tryd.f87,qB Tryd.f87,by kernel_rfl,by kernel_rfl,rfl⟩ (by kernel_rfl) (qsP _N)
abbrev qcq:List Kd:=[.dat (.int .u32),.dat (.int .i64)]
abbrev qco:List Kd:=[.dat (.bool)]
abbrev qgg:Type:=Dens qco
def qli(_N:Nat):Ctx:={ T:=[],G:=findE [],I:=findI [],N:=_N,n:=10,fx:=[],fl:=0,gs:=Gs }
def qgy(_N:Nat)(_x1:Int)(_x2:Int):Option qgg:=
 (bif (decide (_x2<0)) then none else (some (((iand .u32 (ishr .u32 _x1 _x2) (1:Int))==(1:Int)),())))
def qbo(_N:Nat)(_x:Dens qcq):Option qgg:=qgy _N _x.1 _x.2.1
theorem qjJ(_N:Nat):SpecD Tryd.prog Gs 90 qcq qco (qbo _N):=mkSpD (fn:=Tryd.f90) (c:=qB Tryd.f90) (C:=qli _N)
  (a:=.none)
  (by kernel_rfl) rfl (by kernel_rfl) (by kernel_rfl) ⟨rfl,by unfold TOk;kernel_rfl,qax rfl rfl (zD _),qaw rfl rfl (zD _),rfl⟩ (fun _x=>by kernel_rfl)
theorem qko(_N:Nat):EntOk Tryd.prog Gs (mkP 90 qcq qco (qbo _N)):=entP ⟨Tryd.f90,qB Tryd.f90,by kernel_rfl,by kernel_rfl,rfl⟩ (by kernel_rfl) (qjJ _N)
abbrev qbs:List Kd:=[.dat (.int .u32)]
abbrev qfN:Type:=Int
def qkz(_N:Nat):Ctx:={ T:=[],G:=findE [],I:=findI [],N:=_N,n:=4,fx:=[],fl:=0,gs:=Gs }
def qjL(_N:Nat)(_x1:Int):Option qfN:=
 (some _x1)
def qak(_N:Nat)(_x:Dens qbs):Option qfN:=qjL _N _x.1
theorem qje(_N:Nat):SpecB Tryd.prog Gs 88 qbs 103 (.int .u32) (qak _N):=mkSpB (fn:=Tryd.f88) (c:=qB Tryd.f88) (C:=qkz _N)
  (a:=.none)
  (by kernel_rfl) rfl (by kernel_rfl) (by kernel_rfl) ⟨rfl,by unfold TOk;kernel_rfl,qax rfl rfl (zD _),qaw rfl rfl (zD _),rfl⟩ (fun _x=>by kernel_rfl)
theorem qfG(_N:Nat):EntOk Tryd.prog Gs (mkB 88 qbs 103 (.int .u32) (qak _N)):=entB ⟨Tryd.f88,qB Tryd.f88,by kernel_rfl,by kernel_rfl,rfl⟩ (qje _N)
end Go.Proofs.YtgnnhemoocfclaaDoor
end
