import Derived.Test.YtgnnhemoocfclaaDoorAbsLp
import Derived.Test.YtgnnhemoocfclaaDoorAbsOpn
import Derived.Test.YtgnnhemoocfclaaDoorProg
import Derived.KernelRfl
namespace Go.Proofs.YtgnnhemoocfclaaDoor
open Go.Abs
def qJ (f : Func) : Code:=f.body.getD .skip
def tab : List Int:=[0,1,56,2,57,49,28,3,61,58,42,50,38,29,17,4,62,47,59,36,45,43,51,22,53,39,33,30,24,18,12,5,63,55,48,27,60,41,37,16,46,35,44,21,52,32,23,11,54,26,40,15,34,20,31,10,25,14,19,9,13,8,7,6]
def Gs : List (Nat × List Value):=[(0,tab.map fun z=>.int .u8 z)]
abbrev qfP : List Kd:=[.dat (.int .i64)]
abbrev qfN : List Kd:=[.dat (.int .u32)]
abbrev qnG : Type:=Dens qfN
noncomputable def qvh (_N : Nat) : Ctx:={ T:=[],G:=findE [],I:=findI [],N:=_N,n:=5,fx:=[],fl:=0,gs:=Gs }
noncomputable def qoB (_N : Nat) (_x1 : Int) : Option qnG :=
 (bif (decide (_x1 < 0)) then none else (some ((ishl .u32 (1 : Int) _x1),())))
noncomputable def qbn (_N : Nat) (_x : Dens qfP) : Option qnG:=qoB _N _x.1
theorem qsA (_N : Nat) : SpecD Tryd.prog Gs 87 qfP qfN (qbn _N):=mkSpD (fn:=Tryd.f87) (c:=qJ Tryd.f87) (C:=qvh _N)
  (a:=.none)
  (by kernel_rfl) rfl (by kernel_rfl) (by kernel_rfl) ⟨rfl,by unfold TOk; kernel_rfl,qaC rfl rfl (List.forall_mem_nil _),qaB rfl rfl (List.forall_mem_nil _),rfl⟩ (fun _x=>by kernel_rfl)
theorem qnu (_N : Nat) : EntOk Tryd.prog Gs (mkP 87 qfP qfN (qbn _N)):=entP ⟨Tryd.f87,qJ Tryd.f87,by kernel_rfl,by kernel_rfl,rfl⟩ (by kernel_rfl) (qsA _N)
abbrev qcn : List Kd:=[.dat (.int .u32),.dat (.int .i64)]
abbrev qcl : List Kd:=[.dat (.bool)]
abbrev qgn : Type:=Dens qcl
noncomputable def qld (_N : Nat) : Ctx:={ T:=[],G:=findE [],I:=findI [],N:=_N,n:=10,fx:=[],fl:=0,gs:=Gs }
noncomputable def qgE (_N : Nat) (_x1 : Int) (_x2 : Int) : Option qgn :=
 (bif (decide (_x2 < 0)) then none else (some (((iand .u32 (ishr .u32 _x1 _x2) (1 : Int)) == (1 : Int)),())))
noncomputable def qbj (_N : Nat) (_x : Dens qcn) : Option qgn:=qgE _N _x.1 _x.2.1
theorem qjD (_N : Nat) : SpecD Tryd.prog Gs 90 qcn qcl (qbj _N):=mkSpD (fn:=Tryd.f90) (c:=qJ Tryd.f90) (C:=qld _N)
  (a:=.none)
  (by kernel_rfl) rfl (by kernel_rfl) (by kernel_rfl) ⟨rfl,by unfold TOk; kernel_rfl,qaC rfl rfl (List.forall_mem_nil _),qaB rfl rfl (List.forall_mem_nil _),rfl⟩ (fun _x=>by kernel_rfl)
theorem qkj (_N : Nat) : EntOk Tryd.prog Gs (mkP 90 qcn qcl (qbj _N)):=entP ⟨Tryd.f90,qJ Tryd.f90,by kernel_rfl,by kernel_rfl,rfl⟩ (by kernel_rfl) (qjD _N)
abbrev qbl : List Kd:=[.dat (.int .u32)]
abbrev qfM : Type:=Int
noncomputable def qku (_N : Nat) : Ctx:={ T:=[],G:=findE [],I:=findI [],N:=_N,n:=4,fx:=[],fl:=0,gs:=Gs }
noncomputable def qjF (_N : Nat) (_x1 : Int) : Option qfM :=
 (some _x1)
noncomputable def qaj (_N : Nat) (_x : Dens qbl) : Option qfM:=qjF _N _x.1
theorem qjb (_N : Nat) : SpecB Tryd.prog Gs 88 qbl 103 (.int .u32) (qaj _N):=mkSpB (fn:=Tryd.f88) (c:=qJ Tryd.f88) (C:=qku _N)
  (a:=.none)
  (by kernel_rfl) rfl (by kernel_rfl) (by kernel_rfl) ⟨rfl,by unfold TOk; kernel_rfl,qaC rfl rfl (List.forall_mem_nil _),qaB rfl rfl (List.forall_mem_nil _),rfl⟩ (fun _x=>by kernel_rfl)
theorem qfH (_N : Nat) : EntOk Tryd.prog Gs (mkB 88 qbl 103 (.int .u32) (qaj _N)):=entB ⟨Tryd.f88,qJ Tryd.f88,by kernel_rfl,by kernel_rfl,rfl⟩ (qjb _N)
end Go.Proofs.YtgnnhemoocfclaaDoor
