import Derived.Test.YtgnnhemoocfclaaGreatDoorAbsLp
import Derived.Test.YtgnnhemoocfclaaGreatDoorAbsOpn
import Derived.Test.YtgnnhemoocfclaaGreatDoorProg
import Derived.KernelRfl
noncomputable section
namespace Go.Proofs.YtgnnhemoocfclaaGreatDoor
open Go.Abs
def qh(f:Func):Code:=f.body.getD .skip
def tab:List Int:=[0,1,56,2,57,49,28,3,61,58,42,50,38,29,17,4,62,47,59,36,45,43,51,22,53,39,33,30,24,18,12,5,63,55,48,27,60,41,37,16,46,35,44,21,52,32,23,11,54,26,40,15,34,20,31,10,25,14,19,9,13,8,7,6]
def Gs:List (Nat×List Value):=[(0,tab.map fun z=>.int .u8 z)]
abbrev qit:List Kd:=[.dat (.int .i64)]
abbrev qis:List Kd:=[.dat (.int .u32)]
abbrev qrV:Type:=Dens qis
def qAx(_N:Nat):Ctx:={ T:=[],G:=findE [],I:=findI [],N:=_N,n:=5,fx:=[],fl:=0,gs:=Gs }
def qsZ(_N:Nat)(_x1:Int):Option qrV:=
 (bif (decide (_x1<0)) then none else (some ((ishl .u32 (1:Int) _x1),())))
def qcA(_N:Nat)(_x:Dens qit):Option qrV:=qsZ _N _x.1
theorem qxt(_N:Nat):SpecD Tryz.prog Gs 78 qit qis (qcA _N):=mkSpD (fn:=Tryz.f78) (c:=qh Tryz.f78) (C:=qAx _N)
  (a:=.none)
  (by kernel_rfl) rfl (by kernel_rfl) (by kernel_rfl) ⟨rfl,by unfold TOk;kernel_rfl,qak rfl rfl (zC _),qaj rfl rfl (zC _),rfl⟩ (fun _x=>by kernel_rfl)
theorem qrI(_N:Nat):EntOk Tryz.prog Gs (mkP 78 qit qis (qcA _N)):=entP ⟨Tryz.f78,qh Tryz.f78,by kernel_rfl,by kernel_rfl,rfl⟩ (by kernel_rfl) (qxt _N)
abbrev qdT:List Kd:=[.dat (.int .u32),.dat (.int .i64)]
abbrev qdR:List Kd:=[.dat (.bool)]
abbrev qiH:Type:=Dens qdR
def qoY(_N:Nat):Ctx:={ T:=[],G:=findE [],I:=findI [],N:=_N,n:=10,fx:=[],fl:=0,gs:=Gs }
def qjh(_N:Nat)(_x1:Int)(_x2:Int):Option qiH:=
 (bif (decide (_x2<0)) then none else (some (((iand .u32 (ishr .u32 _x1 _x2) (1:Int))==(1:Int)),())))
def qcm(_N:Nat)(_x:Dens qdT):Option qiH:=qjh _N _x.1 _x.2.1
theorem qnr(_N:Nat):SpecD Tryz.prog Gs 81 qdT qdR (qcm _N):=mkSpD (fn:=Tryz.f81) (c:=qh Tryz.f81) (C:=qoY _N)
  (a:=.none)
  (by kernel_rfl) rfl (by kernel_rfl) (by kernel_rfl) ⟨rfl,by unfold TOk;kernel_rfl,qak rfl rfl (zC _),qaj rfl rfl (zC _),rfl⟩ (fun _x=>by kernel_rfl)
theorem qnX(_N:Nat):EntOk Tryz.prog Gs (mkP 81 qdT qdR (qcm _N)):=entP ⟨Tryz.f81,qh Tryz.f81,by kernel_rfl,by kernel_rfl,rfl⟩ (by kernel_rfl) (qnr _N)
abbrev qcr:List Kd:=[.dat (.int .u32)]
abbrev qir:Type:=Int
def qok(_N:Nat):Ctx:={ T:=[],G:=findE [],I:=findI [],N:=_N,n:=4,fx:=[],fl:=0,gs:=Gs }
def qnu(_N:Nat)(_x1:Int):Option qir:=
 (some _x1)
def qaO(_N:Nat)(_x:Dens qcr):Option qir:=qnu _N _x.1
theorem qmH(_N:Nat):SpecB Tryz.prog Gs 79 qcr 97 (.int .u32) (qaO _N):=mkSpB (fn:=Tryz.f79) (c:=qh Tryz.f79) (C:=qok _N)
  (a:=.none)
  (by kernel_rfl) rfl (by kernel_rfl) (by kernel_rfl) ⟨rfl,by unfold TOk;kernel_rfl,qak rfl rfl (zC _),qaj rfl rfl (zC _),rfl⟩ (fun _x=>by kernel_rfl)
theorem qih(_N:Nat):EntOk Tryz.prog Gs (mkB 79 qcr 97 (.int .u32) (qaO _N)):=entB ⟨Tryz.f79,qh Tryz.f79,by kernel_rfl,by kernel_rfl,rfl⟩ (qmH _N)
end Go.Proofs.YtgnnhemoocfclaaGreatDoor
end
