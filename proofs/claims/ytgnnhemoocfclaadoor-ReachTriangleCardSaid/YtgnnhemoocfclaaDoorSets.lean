import Derived.Test.YtgnnhemoocfclaaDoorAbsLp
import Derived.Test.YtgnnhemoocfclaaDoorAbsOpn
import Derived.Test.YtgnnhemoocfclaaDoorProg
import Derived.KernelRfl
namespace Go.Proofs.YtgnnhemoocfclaaDoor
open Go.Abs
def qE (f : Func) : Code:=f.body.getD .skip
def tab : List Int:=[0,1,56,2,57,49,28,3,61,58,42,50,38,29,17,4,62,47,59,36,45,43,51,22,53,39,33,30,24,18,12,5,63,55,48,27,60,41,37,16,46,35,44,21,52,32,23,11,54,26,40,15,34,20,31,10,25,14,19,9,13,8,7,6]
def Gs : List (Nat × List Value):=[(0,tab.map fun z=>.int .u8 z)]
abbrev qfo : List Kd:=[.dat (.int .i64)]
abbrev qfn : List Kd:=[.dat (.int .u32)]
abbrev qmO : Type:=Dens qfn
noncomputable def qur (_N : Nat) : Ctx:={ T:=[],G:=findE [],I:=findI [],N:=_N,n:=5,fx:=[],fl:=0,gs:=Gs }
noncomputable def qnJ (_N : Nat) (_x1 : Int) : Option qmO :=
 (bif (decide (_x1 < 0)) then none else (some ((ishl .u32 (1 : Int) _x1),())))
noncomputable def qbq (_N : Nat) (_x : Dens qfo) : Option qmO:=qnJ _N _x.1
theorem qrM (_N : Nat) : SpecD Tryd.prog Gs 87 qfo qfn (qbq _N):=mkSpD (fn:=Tryd.f87) (c:=qE Tryd.f87) (C:=qur _N)
  (a:=.none)
  (by kernel_rfl) rfl (by kernel_rfl) (by kernel_rfl) ⟨rfl,by unfold TOk; kernel_rfl,qaD rfl rfl (List.forall_mem_nil _),qaC rfl rfl (List.forall_mem_nil _),rfl⟩ (fun _x=>by kernel_rfl)
theorem qmC (_N : Nat) : EntOk Tryd.prog Gs (mkP 87 qfo qfn (qbq _N)):=entP ⟨Tryd.f87,qE Tryd.f87,by kernel_rfl,by kernel_rfl,rfl⟩ (by kernel_rfl) (qrM _N)
abbrev qch : List Kd:=[.dat (.int .u32),.dat (.int .i64)]
abbrev qcf : List Kd:=[.dat (.bool)]
abbrev qfF : Type:=Dens qcf
noncomputable def qkz (_N : Nat) : Ctx:={ T:=[],G:=findE [],I:=findI [],N:=_N,n:=10,fx:=[],fl:=0,gs:=Gs }
noncomputable def qfX (_N : Nat) (_x1 : Int) (_x2 : Int) : Option qfF :=
 (bif (decide (_x2 < 0)) then none else (some (((iand .u32 (ishr .u32 _x1 _x2) (1 : Int)) == (1 : Int)),())))
noncomputable def qbj (_N : Nat) (_x : Dens qch) : Option qfF:=qfX _N _x.1 _x.2.1
theorem qjd (_N : Nat) : SpecD Tryd.prog Gs 90 qch qcf (qbj _N):=mkSpD (fn:=Tryd.f90) (c:=qE Tryd.f90) (C:=qkz _N)
  (a:=.none)
  (by kernel_rfl) rfl (by kernel_rfl) (by kernel_rfl) ⟨rfl,by unfold TOk; kernel_rfl,qaD rfl rfl (List.forall_mem_nil _),qaC rfl rfl (List.forall_mem_nil _),rfl⟩ (fun _x=>by kernel_rfl)
theorem qjM (_N : Nat) : EntOk Tryd.prog Gs (mkP 90 qch qcf (qbj _N)):=entP ⟨Tryd.f90,qE Tryd.f90,by kernel_rfl,by kernel_rfl,rfl⟩ (by kernel_rfl) (qjd _N)
abbrev qbm : List Kd:=[.dat (.int .u32)]
abbrev qfm : Type:=Int
noncomputable def qjU (_N : Nat) : Ctx:={ T:=[],G:=findE [],I:=findI [],N:=_N,n:=4,fx:=[],fl:=0,gs:=Gs }
noncomputable def qjf (_N : Nat) (_x1 : Int) : Option qfm :=
 (some _x1)
noncomputable def qah (_N : Nat) (_x : Dens qbm) : Option qfm:=qjf _N _x.1
theorem qiA (_N : Nat) : SpecB Tryd.prog Gs 88 qbm 103 (.int .u32) (qah _N):=mkSpB (fn:=Tryd.f88) (c:=qE Tryd.f88) (C:=qjU _N)
  (a:=.none)
  (by kernel_rfl) rfl (by kernel_rfl) (by kernel_rfl) ⟨rfl,by unfold TOk; kernel_rfl,qaD rfl rfl (List.forall_mem_nil _),qaC rfl rfl (List.forall_mem_nil _),rfl⟩ (fun _x=>by kernel_rfl)
theorem qfh (_N : Nat) : EntOk Tryd.prog Gs (mkB 88 qbm 103 (.int .u32) (qah _N)):=entB ⟨Tryd.f88,qE Tryd.f88,by kernel_rfl,by kernel_rfl,rfl⟩ (qiA _N)
end Go.Proofs.YtgnnhemoocfclaaDoor
