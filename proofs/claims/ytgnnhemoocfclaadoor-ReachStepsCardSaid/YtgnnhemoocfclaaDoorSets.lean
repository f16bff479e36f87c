import Derived.Test.YtgnnhemoocfclaaDoorAbsLp
import Derived.Test.YtgnnhemoocfclaaDoorAbsOpn
import Derived.Test.YtgnnhemoocfclaaDoorProg
import Derived.KernelRfl
namespace Go.Proofs.YtgnnhemoocfclaaDoor
open Go.Abs
def qF (f : Func) : Code:=f.body.getD .skip
def tab : List Int:=[0,1,56,2,57,49,28,3,61,58,42,50,38,29,17,4,62,47,59,36,45,43,51,22,53,39,33,30,24,18,12,5,63,55,48,27,60,41,37,16,46,35,44,21,52,32,23,11,54,26,40,15,34,20,31,10,25,14,19,9,13,8,7,6]
def Gs : List (Nat × List Value):=[(0,tab.map fun z=>.int .u8 z)]
abbrev qfX : List Kd:=[.dat (.int .i64)]
abbrev qfW : List Kd:=[.dat (.int .u32)]
abbrev qog : Type:=Dens qfW
noncomputable def qvZ (_N : Nat) : Ctx:={ T:=[],G:=findE [],I:=findI [],N:=_N,n:=5,fx:=[],fl:=0,gs:=Gs }
noncomputable def qpg (_N : Nat) (_x1 : Int) : Option qog :=
 (bif (decide (_x1 < 0)) then none else (some ((ishl .u32 (1 : Int) _x1),())))
noncomputable def qbx (_N : Nat) (_x : Dens qfX) : Option qog:=qpg _N _x.1
theorem qto (_N : Nat) : SpecD Tryd.prog Gs 87 qfX qfW (qbx _N):=mkSpD (fn:=Tryd.f87) (c:=qF Tryd.f87) (C:=qvZ _N)
  (a:=.none)
  (by kernel_rfl) rfl (by kernel_rfl) (by kernel_rfl) ⟨rfl,by unfold TOk; kernel_rfl,qaq rfl rfl (List.forall_mem_nil _),qap rfl rfl (List.forall_mem_nil _),rfl⟩ (fun _x=>by kernel_rfl)
theorem qnU (_N : Nat) : EntOk Tryd.prog Gs (mkP 87 qfX qfW (qbx _N)):=entP ⟨Tryd.f87,qF Tryd.f87,by kernel_rfl,by kernel_rfl,rfl⟩ (by kernel_rfl) (qto _N)
abbrev qcr : List Kd:=[.dat (.int .u32),.dat (.int .i64)]
abbrev qcp : List Kd:=[.dat (.bool)]
abbrev qgq : Type:=Dens qcp
noncomputable def qlE (_N : Nat) : Ctx:={ T:=[],G:=findE [],I:=findI [],N:=_N,n:=10,fx:=[],fl:=0,gs:=Gs }
noncomputable def qgJ (_N : Nat) (_x1 : Int) (_x2 : Int) : Option qgq :=
 (bif (decide (_x2 < 0)) then none else (some (((iand .u32 (ishr .u32 _x1 _x2) (1 : Int)) == (1 : Int)),())))
noncomputable def qbp (_N : Nat) (_x : Dens qcr) : Option qgq:=qgJ _N _x.1 _x.2.1
theorem qjZ (_N : Nat) : SpecD Tryd.prog Gs 90 qcr qcp (qbp _N):=mkSpD (fn:=Tryd.f90) (c:=qF Tryd.f90) (C:=qlE _N)
  (a:=.none)
  (by kernel_rfl) rfl (by kernel_rfl) (by kernel_rfl) ⟨rfl,by unfold TOk; kernel_rfl,qaq rfl rfl (List.forall_mem_nil _),qap rfl rfl (List.forall_mem_nil _),rfl⟩ (fun _x=>by kernel_rfl)
theorem qkL (_N : Nat) : EntOk Tryd.prog Gs (mkP 90 qcr qcp (qbp _N)):=entP ⟨Tryd.f90,qF Tryd.f90,by kernel_rfl,by kernel_rfl,rfl⟩ (by kernel_rfl) (qjZ _N)
abbrev qbs : List Kd:=[.dat (.int .u32)]
abbrev qfV : Type:=Int
noncomputable def qkU (_N : Nat) : Ctx:={ T:=[],G:=findE [],I:=findI [],N:=_N,n:=4,fx:=[],fl:=0,gs:=Gs }
noncomputable def qkc (_N : Nat) (_x1 : Int) : Option qfV :=
 (some _x1)
noncomputable def qal (_N : Nat) (_x : Dens qbs) : Option qfV:=qkc _N _x.1
theorem qjx (_N : Nat) : SpecB Tryd.prog Gs 88 qbs 103 (.int .u32) (qal _N):=mkSpB (fn:=Tryd.f88) (c:=qF Tryd.f88) (C:=qkU _N)
  (a:=.none)
  (by kernel_rfl) rfl (by kernel_rfl) (by kernel_rfl) ⟨rfl,by unfold TOk; kernel_rfl,qaq rfl rfl (List.forall_mem_nil _),qap rfl rfl (List.forall_mem_nil _),rfl⟩ (fun _x=>by kernel_rfl)
theorem qfQ (_N : Nat) : EntOk Tryd.prog Gs (mkB 88 qbs 103 (.int .u32) (qal _N)):=entB ⟨Tryd.f88,qF Tryd.f88,by kernel_rfl,by kernel_rfl,rfl⟩ (qjx _N)
end Go.Proofs.YtgnnhemoocfclaaDoor
