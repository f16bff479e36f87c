import Derived.Test.YtgnnhemoocfclaaDoorAbsSort
import Derived.Test.YtgnnhemoocfclaaDoorAbsSubF
import Derived.Test.YtgnnhemoocfclaaDoorAbsOrd
import Derived.Test.YtgnnhemoocfclaaDoorAbsOpn
import Derived.Test.YtgnnhemoocfclaaDoorGhG
import Derived.KernelRfl
import Derived.Shelf.SlGeneric
import Derived.Ground.SlsfProg
namespace Go.Proofs.YtgnnhemoocfclaaDoor
open Go.Abs
abbrev Sv : Sh:=.sl (.int .i64)
abbrev qof : List Kd:=[.dat Sv]
abbrev qoe : List Kd:=[.dat (.int .i64)]
abbrev qbU : Type:=Dens qoe
noncomputable def qgN (_N : Nat) : Option qbU :=
 (some ((0 : Int),()))
noncomputable def qey (_N : Nat) (_k4 : Unit -> Option qbU) (_v1 : List Int) (_v2 : Int) (_v3 : Int) (_kn5 : (List Int × Int) × Int -> Option qbU) : Option qbU :=
 (bif (decide (_v3 < _v2)) then (bif (decide (0 <= _v3) && decide (_v3 < (_v1.length : Int))) then (bif (decide ((nth (0 : Int) _v1 (_v3).toNat) < (0 : Int))) then (some ((2 : Int),())) else (bif (decide ((nth (0 : Int) _v1 (_v3).toNat) > (1048576 : Int))) then (some ((2 : Int),())) else (_kn5 ((_v1,_v2),(IntKind.i64.wrap (_v3 + (1 : Int))))))) else none) else (_k4 ()))
noncomputable def qjh (_N : Nat) (_x1 : List Int) : Option qbU :=
 (bif ((_x1.length : Int) == (0 : Int)) then (some ((1 : Int),())) else (bif (decide ((_x1.length : Int) > (4 : Int))) then (some ((1 : Int),())) else (joinD (fun (_s : Unit)=>qgN _N) fun _k4=>(loopE (fun (_c : List Int × Int) (_s : Int) _kn=>qey _N _k4 _c.1 _c.2 _s _kn) _N (_x1,(_x1.length : Int)) (0 : Int)))))
noncomputable def qkc (_N : Nat) (_x : Dens qof) : Option qbU:=qjh _N _x.1
abbrev qdf : List Kd:=[.dat (.int .i64)]
abbrev qdd : List Kd:=[.dat (.bool)]
abbrev qhv : Type:=Dens qdd
noncomputable def qnx (_N : Nat) : Ctx:={ T:=[],G:=findE [],I:=findI [],N:=_N,n:=6,fx:=[],fl:=0,gs:=Gs }
noncomputable def qhQ (_N : Nat) (_x1 : Int) : Option qhv :=
 (some ((_x1 != _x1),()))
noncomputable def qbH (_N : Nat) (_x : Dens qdf) : Option qhv:=qhQ _N _x.1
theorem qlu (_N : Nat) : SpecD Tryd.prog Gs 84 qdf qdd (qbH _N):=mkSpD (fn:=Tryd.f84) (c:=qF Tryd.f84) (C:=qnx _N)
  (a:=.none)
  (by kernel_rfl) rfl (by kernel_rfl) (by kernel_rfl) ⟨rfl,by unfold TOk; kernel_rfl,qaz rfl rfl (List.forall_mem_nil _),qay rfl rfl (List.forall_mem_nil _),rfl⟩ (fun _x=>by kernel_rfl)
theorem qlz (_N : Nat) : EntOk Tryd.prog Gs (mkP 84 qdf qdd (qbH _N)):=entP ⟨Tryd.f84,qF Tryd.f84,by kernel_rfl,by kernel_rfl,rfl⟩ (by kernel_rfl) (qlu _N)
abbrev qbs : List Kd:=[.dat (.int .i64),.dat (.int .i64)]
abbrev qbr : List Kd:=[.dat (.int .i64)]
abbrev qfU : Type:=Dens qbr
noncomputable def qkN (_N : Nat) : Ctx:={ T:=[],G:=findE [mkP 84 qdf qdd (qbH _N)],I:=findI [],N:=_N,n:=20,fx:=[],fl:=0,gs:=Gs }
noncomputable def qgH (_N : Nat) (_x1 : Int) (_x2 : Int) : Option qfU :=
 ((qbH _N (_x1,())).bind fun _y3=>((qbH _N (_x2,())).bind fun _y4=>(bif _y3.1 then (bif _y4.1 then (some ((0 : Int),())) else (some ((-1 : Int),()))) else (bif _y4.1 then (some ((1 : Int),())) else (bif (decide (_x1 < _x2)) then (some ((-1 : Int),())) else (bif (decide (_x1 > _x2)) then (some ((1 : Int),())) else (some ((0 : Int),()))))))))
noncomputable def qaq (_N : Nat) (_x : Dens qbs) : Option qfU:=qgH _N _x.1 _x.2.1
theorem qjo (_N : Nat) : SpecD Tryd.prog Gs 64 qbs qbr (qaq _N):=mkSpD (fn:=Tryd.f64) (c:=qF Tryd.f64) (C:=qkN _N)
  (a:=.none)
  (by kernel_rfl) rfl (by kernel_rfl) (by kernel_rfl) ⟨rfl,by unfold TOk; kernel_rfl,qaz rfl rfl (List.forall_mem_cons.2 ⟨qlz _N,(List.forall_mem_nil _)⟩),qay rfl rfl (List.forall_mem_nil _),rfl⟩ (fun _x=>by kernel_rfl)
theorem qfO (_N : Nat) : EntOk Tryd.prog Gs (mkP 64 qbs qbr (qaq _N)):=entP ⟨Tryd.f64,qF Tryd.f64,by kernel_rfl,by kernel_rfl,rfl⟩ (by kernel_rfl) (qjo _N)
abbrev qaK : List Kd:=[.dat Sv,.dat Sv]
abbrev qaJ : List Kd:=[.dat (.int .i64)]
abbrev qZ : Type:=Dens qaJ
noncomputable def qgj (_N : Nat) : Ctx:={ T:=[(3,⟨.int .i64,1,8,some (.int .i64),[.int .i64 (0 : Int)],false,[]⟩),(38,⟨.slice 3,1,24,some Sv,[.nil],false,[]⟩)],G:=findE [mkP 64 qbs qbr (qaq _N)],I:=findI [],N:=_N,n:=36,fx:=[],fl:=0,gs:=Gs }
noncomputable def qcS (_N : Nat) (_v8 : List Int) (_v9 : List Int) : Option qZ :=
 (bif (decide ((_v8.length : Int) < (_v9.length : Int))) then (some ((-1 : Int),())) else (some ((0 : Int),())))
noncomputable def qbu (_N : Nat) (_k10 : (List Int × List Int) -> Option qZ) (_v1 : List Int) (_v2 : List Int) (_v3 : List Int) (_v4 : Int) (_v5 : Int) (_kn11 : (List Int × List Int × List Int × Int) × Int -> Option qZ) : Option qZ :=
 (bif (decide (_v5 < _v4)) then (bif (decide (0 <= _v5) && decide (_v5 < (_v3.length : Int))) then (bif (decide (_v5 >= (_v2.length : Int))) then (some ((1 : Int),())) else (bif (decide (0 <= _v5) && decide (_v5 < (_v2.length : Int))) then ((qaq _N ((nth (0 : Int) _v3 (_v5).toNat),(nth (0 : Int) _v2 (_v5).toNat),())).bind fun _y12=>(bif (_y12.1 != (0 : Int)) then (some (_y12.1,())) else (_kn11 ((_v1,_v2,_v3,_v4),(IntKind.i64.wrap (_v5 + (1 : Int))))))) else none)) else none) else (_k10 (_v1,_v2)))
noncomputable def qcR (_N : Nat) (_x1 : List Int) (_x2 : List Int) : Option qZ :=
 (joinD (fun (_s : List Int × List Int)=>qcS _N _s.1 _s.2) fun _k10=>(loopE (fun (_c : List Int × List Int × List Int × Int) (_s : Int) _kn=>qbu _N _k10 _c.1 _c.2.1 _c.2.2.1 _c.2.2.2 _s _kn) _N (_x1,_x2,_x1,(_x1.length : Int)) (0 : Int)))
noncomputable def qae (_N : Nat) (_x : Dens qaK) : Option qZ:=qcR _N _x.1 _x.2.1
theorem qfB (_N : Nat) : SpecD Tryd.prog Gs 65 qaK qaJ (qae _N):=mkSpD (fn:=Tryd.f65) (c:=qF Tryd.f65) (C:=qgj _N)
  (a:=.two .none (.join 0 ⟨[(0,.sl (.int .i64)),(1,.sl (.int .i64))],[]⟩ (.two .none (.one (.loop 0 ⟨[(0,.sl (.int .i64)),(1,.sl (.int .i64)),(9,.sl (.int .i64)),(10,.int .i64),(11,.int .i64)],[]⟩ [4] .none))) .none))
  (by kernel_rfl) rfl (by kernel_rfl) (by kernel_rfl) ⟨rfl,by unfold TOk; kernel_rfl,qaz rfl rfl (List.forall_mem_cons.2 ⟨qfO _N,(List.forall_mem_nil _)⟩),qay rfl rfl (List.forall_mem_nil _),rfl⟩ (fun _x=>by kernel_rfl)
theorem qfC (_N : Nat) : EntOk Tryd.prog Gs (mkP 65 qaK qaJ (qae _N)):=entP ⟨Tryd.f65,qF Tryd.f65,by kernel_rfl,by kernel_rfl,rfl⟩ (by kernel_rfl) (qfB _N)
shelf_lay_g SlLaysF.n6 Slsf 6 at Tryd 79 as lay_sortT
abbrev qaB : List Kd:=[.dat Sv]
abbrev qdu : Type:=List Int
noncomputable def qhh (_N : Nat) : Ctx:={ T:=[(3,⟨.int .i64,1,8,some (.int .i64),[.int .i64 (0 : Int)],false,[]⟩),(38,⟨.slice 3,1,24,some Sv,[.nil],false,[]⟩)],G:=findE [],I:=findI [],N:=_N,n:=8,fx:=[],fl:=0,gs:=Gs }
noncomputable def qdz (_N : Nat) (_x1 : List Int) : Option qdu :=
 (bif _x1.isEmpty then (dem2 (some []) (bif (decide ((([] : List Int).length + _x1.length) * 8 <= 140737488355328) && Nat.ble 1 8) then (some (([] : List Int) ++ _x1)) else none)) else (bif (decide ((([] : List Int).length + _x1.length) * 8 <= 140737488355328) && Nat.ble 1 8) then (some (([] : List Int) ++ _x1)) else none))
noncomputable def qU (_N : Nat) (_x : Dens qaB) : Option qdu:=qdz _N _x.1
theorem qgm (_N : Nat) : SpecF Tryd.prog Gs 35 qaB 3 (.int .i64) (qU _N):=mkSpF (fn:=Tryd.f35) (c:=qF Tryd.f35) (C:=qhh _N)
  (a:=.none)
  (by kernel_rfl) rfl (by kernel_rfl) (by kernel_rfl) ⟨rfl,by unfold TOk; kernel_rfl,qaz rfl rfl (List.forall_mem_nil _),qay rfl rfl (List.forall_mem_nil _),rfl⟩ (fun _x=>by kernel_rfl)
theorem qdr (_N : Nat) : EntOk Tryd.prog Gs (mkF 35 qaB 3 (.int .i64) (qU _N)):=entF ⟨Tryd.f35,qF Tryd.f35,by kernel_rfl,by kernel_rfl,rfl⟩ (by kernel_rfl) (Nat.le_of_ble_eq_true (by kernel_rfl)) (qgm _N)
end Go.Proofs.YtgnnhemoocfclaaDoor
