import Derived.Test.YtgnnhemoocfclaaDoorAbsLp
import Derived.Test.YtgnnhemoocfclaaDoorAbsOpn
import Derived.Test.YtgnnhemoocfclaaDoorProg
import Derived.KernelRfl
namespace Go.Proofs.YtgnnhemoocfclaaDoor
open Go.Abs
def qE (f : Func) : Code:=f.body.getD .skip
def tab : List Int:=[0,1,56,2,57,49,28,3,61,58,42,50,38,29,17,4,62,47,59,36,45,43,51,22,53,39,33,30,24,18,12,5,63,55,48,27,60,41,37,16,46,35,44,21,52,32,23,11,54,26,40,15,34,20,31,10,25,14,19,9,13,8,7,6]
def Gs : List (Nat × List Value):=[(0,tab.map fun z=>.int .u8 z)]
abbrev qft : List Kd:=[.dat (.int .i64)]
abbrev qfs : List Kd:=[.dat (.int .u32)]
abbrev qnf : Type:=Dens qfs
noncomputable def quK (_N : Nat) : Ctx:={ T:=[],G:=findE [],I:=findI [],N:=_N,n:=5,fx:=[],fl:=0,gs:=Gs }
noncomputable def qob (_N : Nat) (_x1 : Int) : Option qnf :=
 (bif (decide (_x1 < 0)) then none else (some ((ishl .u32 (1 : Int) _x1),())))
noncomputable def qbr (_N : Nat) (_x : Dens qft) : Option qnf:=qob _N _x.1
theorem qsd (_N : Nat) : SpecD Tryd.prog Gs 87 qft qfs (qbr _N):=mkSpD (fn:=Tryd.f87) (c:=qE Tryd.f87) (C:=quK _N)
  (a:=.none)
  (by kernel_rfl) rfl (by kernel_rfl) (by kernel_rfl) ⟨rfl,by unfold TOk; kernel_rfl,qaA rfl rfl (List.forall_mem_nil _),qaz rfl rfl (List.forall_mem_nil _),rfl⟩ (fun _x=>by kernel_rfl)
theorem qmS (_N : Nat) : EntOk Tryd.prog Gs (mkP 87 qft qfs (qbr _N)):=entP ⟨Tryd.f87,qE Tryd.f87,by kernel_rfl,by kernel_rfl,rfl⟩ (by kernel_rfl) (qsd _N)
abbrev qcl : List Kd:=[.dat (.int .u32),.dat (.int .i64)]
abbrev qcj : List Kd:=[.dat (.bool)]
abbrev qfK : Type:=Dens qcj
noncomputable def qkL (_N : Nat) : Ctx:={ T:=[],G:=findE [],I:=findI [],N:=_N,n:=10,fx:=[],fl:=0,gs:=Gs }
noncomputable def qgf (_N : Nat) (_x1 : Int) (_x2 : Int) : Option qfK :=
 (bif (decide (_x2 < 0)) then none else (some (((iand .u32 (ishr .u32 _x1 _x2) (1 : Int)) == (1 : Int)),())))
noncomputable def qbj (_N : Nat) (_x : Dens qcl) : Option qfK:=qgf _N _x.1 _x.2.1
theorem qjn (_N : Nat) : SpecD Tryd.prog Gs 90 qcl qcj (qbj _N):=mkSpD (fn:=Tryd.f90) (c:=qE Tryd.f90) (C:=qkL _N)
  (a:=.none)
  (by kernel_rfl) rfl (by kernel_rfl) (by kernel_rfl) ⟨rfl,by unfold TOk; kernel_rfl,qaA rfl rfl (List.forall_mem_nil _),qaz rfl rfl (List.forall_mem_nil _),rfl⟩ (fun _x=>by kernel_rfl)
theorem qjX (_N : Nat) : EntOk Tryd.prog Gs (mkP 90 qcl qcj (qbj _N)):=entP ⟨Tryd.f90,qE Tryd.f90,by kernel_rfl,by kernel_rfl,rfl⟩ (by kernel_rfl) (qjn _N)
abbrev qbm : List Kd:=[.dat (.int .u32)]
abbrev qfr : Type:=Int
noncomputable def qkf (_N : Nat) : Ctx:={ T:=[],G:=findE [],I:=findI [],N:=_N,n:=4,fx:=[],fl:=0,gs:=Gs }
noncomputable def qjq (_N : Nat) (_x1 : Int) : Option qfr :=
 (some _x1)
noncomputable def qah (_N : Nat) (_x : Dens qbm) : Option qfr:=qjq _N _x.1
theorem qiL (_N : Nat) : SpecB Tryd.prog Gs 88 qbm 103 (.int .u32) (qah _N):=mkSpB (fn:=Tryd.f88) (c:=qE Tryd.f88) (C:=qkf _N)
  (a:=.none)
  (by kernel_rfl) rfl (by kernel_rfl) (by kernel_rfl) ⟨rfl,by unfold TOk; kernel_rfl,qaA rfl rfl (List.forall_mem_nil _),qaz rfl rfl (List.forall_mem_nil _),rfl⟩ (fun _x=>by kernel_rfl)
theorem qfm (_N : Nat) : EntOk Tryd.prog Gs (mkB 88 qbm 103 (.int .u32) (qah _N)):=entB ⟨Tryd.f88,qE Tryd.f88,by kernel_rfl,by kernel_rfl,rfl⟩ (qiL _N)
end Go.Proofs.YtgnnhemoocfclaaDoor
