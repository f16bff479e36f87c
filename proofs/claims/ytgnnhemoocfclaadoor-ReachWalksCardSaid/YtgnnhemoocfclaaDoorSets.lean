import Derived.Test.YtgnnhemoocfclaaDoorAbsLp
import Derived.Test.YtgnnhemoocfclaaDoorAbsOpn
import Derived.Test.YtgnnhemoocfclaaDoorProg
import Derived.KernelRfl
namespace Go.Proofs.YtgnnhemoocfclaaDoor
open Go.Abs
def qF (f : Func) : Code:=f.body.getD .skip
def tab : List Int:=[0,1,56,2,57,49,28,3,61,58,42,50,38,29,17,4,62,47,59,36,45,43,51,22,53,39,33,30,24,18,12,5,63,55,48,27,60,41,37,16,46,35,44,21,52,32,23,11,54,26,40,15,34,20,31,10,25,14,19,9,13,8,7,6]
def Gs : List (Nat × List Value):=[(0,tab.map fun z=>.int .u8 z)]
abbrev qfz : List Kd:=[.dat (.int .i64)]
abbrev qfy : List Kd:=[.dat (.int .u32)]
abbrev qnq : Type:=Dens qfy
noncomputable def quT (_N : Nat) : Ctx:={ T:=[],G:=findE [],I:=findI [],N:=_N,n:=5,fx:=[],fl:=0,gs:=Gs }
noncomputable def qol (_N : Nat) (_x1 : Int) : Option qnq :=
 (bif (decide (_x1 < 0)) then none else (some ((ishl .u32 (1 : Int) _x1),())))
noncomputable def qbl (_N : Nat) (_x : Dens qfz) : Option qnq:=qol _N _x.1
theorem qsn (_N : Nat) : SpecD Tryd.prog Gs 87 qfz qfy (qbl _N):=mkSpD (fn:=Tryd.f87) (c:=qF Tryd.f87) (C:=quT _N)
  (a:=.none)
  (by kernel_rfl) rfl (by kernel_rfl) (by kernel_rfl) ⟨rfl,by unfold TOk; kernel_rfl,qaz rfl rfl (List.forall_mem_nil _),qay rfl rfl (List.forall_mem_nil _),rfl⟩ (fun _x=>by kernel_rfl)
theorem qne (_N : Nat) : EntOk Tryd.prog Gs (mkP 87 qfz qfy (qbl _N)):=entP ⟨Tryd.f87,qF Tryd.f87,by kernel_rfl,by kernel_rfl,rfl⟩ (by kernel_rfl) (qsn _N)
abbrev qce : List Kd:=[.dat (.int .u32),.dat (.int .i64)]
abbrev qcc : List Kd:=[.dat (.bool)]
abbrev qfS : Type:=Dens qcc
noncomputable def qkL (_N : Nat) : Ctx:={ T:=[],G:=findE [],I:=findI [],N:=_N,n:=10,fx:=[],fl:=0,gs:=Gs }
noncomputable def qgn (_N : Nat) (_x1 : Int) (_x2 : Int) : Option qfS :=
 (bif (decide (_x2 < 0)) then none else (some (((iand .u32 (ishr .u32 _x1 _x2) (1 : Int)) == (1 : Int)),())))
noncomputable def qbh (_N : Nat) (_x : Dens qce) : Option qfS:=qgn _N _x.1 _x.2.1
theorem qjm (_N : Nat) : SpecD Tryd.prog Gs 90 qce qcc (qbh _N):=mkSpD (fn:=Tryd.f90) (c:=qF Tryd.f90) (C:=qkL _N)
  (a:=.none)
  (by kernel_rfl) rfl (by kernel_rfl) (by kernel_rfl) ⟨rfl,by unfold TOk; kernel_rfl,qaz rfl rfl (List.forall_mem_nil _),qay rfl rfl (List.forall_mem_nil _),rfl⟩ (fun _x=>by kernel_rfl)
theorem qjU (_N : Nat) : EntOk Tryd.prog Gs (mkP 90 qce qcc (qbh _N)):=entP ⟨Tryd.f90,qF Tryd.f90,by kernel_rfl,by kernel_rfl,rfl⟩ (by kernel_rfl) (qjm _N)
abbrev qbj : List Kd:=[.dat (.int .u32)]
abbrev qfx : Type:=Int
noncomputable def qke (_N : Nat) : Ctx:={ T:=[],G:=findE [],I:=findI [],N:=_N,n:=4,fx:=[],fl:=0,gs:=Gs }
noncomputable def qjp (_N : Nat) (_x1 : Int) : Option qfx :=
 (some _x1)
noncomputable def qai (_N : Nat) (_x : Dens qbj) : Option qfx:=qjp _N _x.1
theorem qiK (_N : Nat) : SpecB Tryd.prog Gs 88 qbj 103 (.int .u32) (qai _N):=mkSpB (fn:=Tryd.f88) (c:=qF Tryd.f88) (C:=qke _N)
  (a:=.none)
  (by kernel_rfl) rfl (by kernel_rfl) (by kernel_rfl) ⟨rfl,by unfold TOk; kernel_rfl,qaz rfl rfl (List.forall_mem_nil _),qay rfl rfl (List.forall_mem_nil _),rfl⟩ (fun _x=>by kernel_rfl)
theorem qfs (_N : Nat) : EntOk Tryd.prog Gs (mkB 88 qbj 103 (.int .u32) (qai _N)):=entB ⟨Tryd.f88,qF Tryd.f88,by kernel_rfl,by kernel_rfl,rfl⟩ (qiK _N)
end Go.Proofs.YtgnnhemoocfclaaDoor
