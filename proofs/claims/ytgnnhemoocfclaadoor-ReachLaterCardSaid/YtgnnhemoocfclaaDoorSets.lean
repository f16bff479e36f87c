import Derived.Test.YtgnnhemoocfclaaDoorAbsLp
import Derived.Test.YtgnnhemoocfclaaDoorAbsOpn
import Derived.Test.YtgnnhemoocfclaaDoorProg
import Derived.KernelRfl
namespace Go.Proofs.YtgnnhemoocfclaaDoor
open Go.Abs
def qE (f : Func) : Code:=f.body.getD .skip
def tab : List Int:=[0,1,56,2,57,49,28,3,61,58,42,50,38,29,17,4,62,47,59,36,45,43,51,22,53,39,33,30,24,18,12,5,63,55,48,27,60,41,37,16,46,35,44,21,52,32,23,11,54,26,40,15,34,20,31,10,25,14,19,9,13,8,7,6]
def Gs : List (Nat × List Value):=[(0,tab.map fun z=>.int .u8 z)]
abbrev qfw : List Kd:=[.dat (.int .i64)]
abbrev qfv : List Kd:=[.dat (.int .u32)]
abbrev qnh : Type:=Dens qfv
noncomputable def quM (_N : Nat) : Ctx:={ T:=[],G:=findE [],I:=findI [],N:=_N,n:=5,fx:=[],fl:=0,gs:=Gs }
noncomputable def qod (_N : Nat) (_x1 : Int) : Option qnh :=
 (bif (decide (_x1 < 0)) then none else (some ((ishl .u32 (1 : Int) _x1),())))
noncomputable def qbs (_N : Nat) (_x : Dens qfw) : Option qnh:=qod _N _x.1
theorem qsh (_N : Nat) : SpecD Tryd.prog Gs 87 qfw qfv (qbs _N):=mkSpD (fn:=Tryd.f87) (c:=qE Tryd.f87) (C:=quM _N)
  (a:=.none)
  (by kernel_rfl) rfl (by kernel_rfl) (by kernel_rfl) ⟨rfl,by unfold TOk; kernel_rfl,qaA rfl rfl (List.forall_mem_nil _),qaz rfl rfl (List.forall_mem_nil _),rfl⟩ (fun _x=>by kernel_rfl)
theorem qmT (_N : Nat) : EntOk Tryd.prog Gs (mkP 87 qfw qfv (qbs _N)):=entP ⟨Tryd.f87,qE Tryd.f87,by kernel_rfl,by kernel_rfl,rfl⟩ (by kernel_rfl) (qsh _N)
abbrev qcm : List Kd:=[.dat (.int .u32),.dat (.int .i64)]
abbrev qck : List Kd:=[.dat (.bool)]
abbrev qfN : Type:=Dens qck
noncomputable def qkN (_N : Nat) : Ctx:={ T:=[],G:=findE [],I:=findI [],N:=_N,n:=10,fx:=[],fl:=0,gs:=Gs }
noncomputable def qgj (_N : Nat) (_x1 : Int) (_x2 : Int) : Option qfN :=
 (bif (decide (_x2 < 0)) then none else (some (((iand .u32 (ishr .u32 _x1 _x2) (1 : Int)) == (1 : Int)),())))
noncomputable def qbl (_N : Nat) (_x : Dens qcm) : Option qfN:=qgj _N _x.1 _x.2.1
theorem qjo (_N : Nat) : SpecD Tryd.prog Gs 90 qcm qck (qbl _N):=mkSpD (fn:=Tryd.f90) (c:=qE Tryd.f90) (C:=qkN _N)
  (a:=.none)
  (by kernel_rfl) rfl (by kernel_rfl) (by kernel_rfl) ⟨rfl,by unfold TOk; kernel_rfl,qaA rfl rfl (List.forall_mem_nil _),qaz rfl rfl (List.forall_mem_nil _),rfl⟩ (fun _x=>by kernel_rfl)
theorem qjY (_N : Nat) : EntOk Tryd.prog Gs (mkP 90 qcm qck (qbl _N)):=entP ⟨Tryd.f90,qE Tryd.f90,by kernel_rfl,by kernel_rfl,rfl⟩ (by kernel_rfl) (qjo _N)
abbrev qbo : List Kd:=[.dat (.int .u32)]
abbrev qfu : Type:=Int
noncomputable def qkh (_N : Nat) : Ctx:={ T:=[],G:=findE [],I:=findI [],N:=_N,n:=4,fx:=[],fl:=0,gs:=Gs }
noncomputable def qjr (_N : Nat) (_x1 : Int) : Option qfu :=
 (some _x1)
noncomputable def qah (_N : Nat) (_x : Dens qbo) : Option qfu:=qjr _N _x.1
theorem qiL (_N : Nat) : SpecB Tryd.prog Gs 88 qbo 103 (.int .u32) (qah _N):=mkSpB (fn:=Tryd.f88) (c:=qE Tryd.f88) (C:=qkh _N)
  (a:=.none)
  (by kernel_rfl) rfl (by kernel_rfl) (by kernel_rfl) ⟨rfl,by unfold TOk; kernel_rfl,qaA rfl rfl (List.forall_mem_nil _),qaz rfl rfl (List.forall_mem_nil _),rfl⟩ (fun _x=>by kernel_rfl)
theorem qfp (_N : Nat) : EntOk Tryd.prog Gs (mkB 88 qbo 103 (.int .u32) (qah _N)):=entB ⟨Tryd.f88,qE Tryd.f88,by kernel_rfl,by kernel_rfl,rfl⟩ (qiL _N)
end Go.Proofs.YtgnnhemoocfclaaDoor
