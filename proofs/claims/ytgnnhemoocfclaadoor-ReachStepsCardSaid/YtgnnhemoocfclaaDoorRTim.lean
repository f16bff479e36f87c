import Derived.Test.YtgnnhemoocfclaaDoorAbsSort
import Derived.Test.YtgnnhemoocfclaaDoorAbsSubF
import Derived.Test.YtgnnhemoocfclaaDoorAbsOrd
import Derived.Test.YtgnnhemoocfclaaDoorAbsOpn
import Derived.Test.YtgnnhemoocfclaaDoorGhG
import Derived.KernelRfl
import Derived.Shelf.SlGeneric
import Derived.Ground.SlsfProg
namespace Go.Proofs.YtgnnhemoocfclaaDoor
open Go.Abs
abbrev Sv : Sh:=.sl (.int .i64)
abbrev qdg : List Kd:=[.dat Sv]
abbrev qdd : List Kd:=[.dat (.int .i64)]
abbrev qci : Type:=Dens qdd
noncomputable def qrl (_N : Nat) : Ctx:={ T:=[(3,⟨.int .i64,1,8,some (.int .i64),[.int .i64 (0 : Int)],false,[]⟩),(38,⟨.slice 3,1,24,some Sv,[.nil],false,[]⟩)],G:=findE [],I:=findI [],N:=_N,n:=26,fx:=[],fl:=0,gs:=Gs }
noncomputable def qhk (_N : Nat) : Option qci :=
 (some ((0 : Int),()))
noncomputable def qeX (_N : Nat) (_k4 : Unit -> Option qci) (_v1 : List Int) (_v2 : Int) (_v3 : Int) (_kn5 : (List Int × Int) × Int -> Option qci) : Option qci :=
 (bif (decide (_v3 < _v2)) then (bif (decide (0 <= _v3) && decide (_v3 < (_v1.length : Int))) then (bif (decide ((nth (0 : Int) _v1 (_v3).toNat) < (0 : Int))) then (some ((2 : Int),())) else (bif (decide ((nth (0 : Int) _v1 (_v3).toNat) > (1048576 : Int))) then (some ((2 : Int),())) else (_kn5 ((_v1,_v2),(IntKind.i64.wrap (_v3 + (1 : Int))))))) else none) else (_k4 ()))
noncomputable def qjU (_N : Nat) (_x1 : List Int) : Option qci :=
 (bif ((_x1.length : Int) == (0 : Int)) then (some ((1 : Int),())) else (bif (decide ((_x1.length : Int) > (4 : Int))) then (some ((1 : Int),())) else (joinD (fun (_s : Unit)=>qhk _N) fun _k4=>(loopE (fun (_c : List Int × Int) (_s : Int) _kn=>qeX _N _k4 _c.1 _c.2 _s _kn) _N (_x1,(_x1.length : Int)) (0 : Int)))))
noncomputable def qbG (_N : Nat) (_x : Dens qdg) : Option qci:=qjU _N _x.1
theorem qot (_N : Nat) : SpecD Tryd.prog Gs 42 qdg qdd (qbG _N):=mkSpD (fn:=Tryd.f42) (c:=qF Tryd.f42) (C:=qrl _N)
  (a:=.two .none (.two .none (.join 0 ⟨[],[]⟩ (.two .none (.one (.loop 0 ⟨[(13,.sl (.int .i64)),(14,.int .i64),(15,.int .i64)],[]⟩ [2] .none))) .none)))
  (by kernel_rfl) rfl (by kernel_rfl) (by kernel_rfl) ⟨rfl,by unfold TOk; kernel_rfl,qaq rfl rfl (List.forall_mem_nil _),qap rfl rfl (List.forall_mem_nil _),rfl⟩ (fun _x=>by kernel_rfl)
theorem qje (_N : Nat) : EntOk Tryd.prog Gs (mkP 42 qdg qdd (qbG _N)):=entP ⟨Tryd.f42,qF Tryd.f42,by kernel_rfl,by kernel_rfl,rfl⟩ (by kernel_rfl) (qot _N)
abbrev qer : List Kd:=[.dat Sv,.dat Sv]
abbrev qej : List Kd:=[.dat (.bool)]
abbrev qch : Type:=Dens qej
noncomputable def qrk (_N : Nat) : Ctx:={ T:=[(3,⟨.int .i64,1,8,some (.int .i64),[.int .i64 (0 : Int)],false,[]⟩),(38,⟨.slice 3,1,24,some Sv,[.nil],false,[]⟩)],G:=findE [],I:=findI [],N:=_N,n:=21,fx:=[],fl:=0,gs:=Gs }
noncomputable def qhj (_N : Nat) : Option qch :=
 (some (true,()))
noncomputable def qeW (_N : Nat) (_k5 : Unit -> Option qch) (_v1 : List Int) (_v2 : List Int) (_v3 : Int) (_v4 : Int) (_kn6 : (List Int × List Int × Int) × Int -> Option qch) : Option qch :=
 (bif (decide (_v4 < _v3)) then (bif (decide (0 <= _v4) && decide (_v4 < (_v1.length : Int))) then (bif (decide (0 <= _v4) && decide (_v4 < (_v2.length : Int))) then (bif (decide ((nth (0 : Int) _v1 (_v4).toNat) > (nth (0 : Int) _v2 (_v4).toNat))) then (some (false,())) else (_kn6 ((_v1,_v2,_v3),(IntKind.i64.wrap (_v4 + (1 : Int)))))) else none) else none) else (_k5 ()))
noncomputable def qjT (_N : Nat) (_x1 : List Int) (_x2 : List Int) : Option qch :=
 (joinD (fun (_s : Unit)=>qhj _N) fun _k5=>(loopE (fun (_c : List Int × List Int × Int) (_s : Int) _kn=>qeW _N _k5 _c.1 _c.2.1 _c.2.2 _s _kn) _N (_x1,_x2,(_x1.length : Int)) (0 : Int)))
noncomputable def qcc (_N : Nat) (_x : Dens qer) : Option qch:=qjT _N _x.1 _x.2.1
theorem qor (_N : Nat) : SpecD Tryd.prog Gs 56 qer qej (qcc _N):=mkSpD (fn:=Tryd.f56) (c:=qF Tryd.f56) (C:=qrk _N)
  (a:=.two .none (.join 0 ⟨[],[]⟩ (.two .none (.one (.loop 0 ⟨[(0,.sl (.int .i64)),(1,.sl (.int .i64)),(7,.int .i64),(8,.int .i64)],[]⟩ [3] (.two .none (.two .none (.two (.one (.two .none (.two (.draw 0 [.pure,.pure,.pure,.pure,.pure,.pure,.pure,.pure,.pure]) .none))) .none)))))) .none))
  (by kernel_rfl) rfl (by kernel_rfl) (by kernel_rfl) ⟨rfl,by unfold TOk; kernel_rfl,qaq rfl rfl (List.forall_mem_nil _),qap rfl rfl (List.forall_mem_nil _),rfl⟩ (fun _x=>by kernel_rfl)
theorem qoT (_N : Nat) : EntOk Tryd.prog Gs (mkP 56 qer qej (qcc _N)):=entP ⟨Tryd.f56,qF Tryd.f56,by kernel_rfl,by kernel_rfl,rfl⟩ (by kernel_rfl) (qor _N)
abbrev qdt : List Kd:=[.dat (.int .i64)]
abbrev qdq : List Kd:=[.dat (.bool)]
abbrev qhT : Type:=Dens qdq
noncomputable def qoo (_N : Nat) : Ctx:={ T:=[],G:=findE [],I:=findI [],N:=_N,n:=6,fx:=[],fl:=0,gs:=Gs }
noncomputable def qiv (_N : Nat) (_x1 : Int) : Option qhT :=
 (some ((_x1 != _x1),()))
noncomputable def qbU (_N : Nat) (_x : Dens qdt) : Option qhT:=qiv _N _x.1
theorem qmk (_N : Nat) : SpecD Tryd.prog Gs 84 qdt qdq (qbU _N):=mkSpD (fn:=Tryd.f84) (c:=qF Tryd.f84) (C:=qoo _N)
  (a:=.none)
  (by kernel_rfl) rfl (by kernel_rfl) (by kernel_rfl) ⟨rfl,by unfold TOk; kernel_rfl,qaq rfl rfl (List.forall_mem_nil _),qap rfl rfl (List.forall_mem_nil _),rfl⟩ (fun _x=>by kernel_rfl)
theorem qmq (_N : Nat) : EntOk Tryd.prog Gs (mkP 84 qdt qdq (qbU _N)):=entP ⟨Tryd.f84,qF Tryd.f84,by kernel_rfl,by kernel_rfl,rfl⟩ (by kernel_rfl) (qmk _N)
abbrev qbF : List Kd:=[.dat (.int .i64),.dat (.int .i64)]
abbrev qbE : List Kd:=[.dat (.int .i64)]
abbrev qgs : Type:=Dens qbE
noncomputable def qlG (_N : Nat) : Ctx:={ T:=[],G:=findE [mkP 84 qdt qdq (qbU _N)],I:=findI [],N:=_N,n:=20,fx:=[],fl:=0,gs:=Gs }
noncomputable def qhd (_N : Nat) (_x1 : Int) (_x2 : Int) : Option qgs :=
 ((qbU _N (_x1,())).bind fun _y3=>((qbU _N (_x2,())).bind fun _y4=>(bif _y3.1 then (bif _y4.1 then (some ((0 : Int),())) else (some ((-1 : Int),()))) else (bif _y4.1 then (some ((1 : Int),())) else (bif (decide (_x1 < _x2)) then (some ((-1 : Int),())) else (bif (decide (_x1 > _x2)) then (some ((1 : Int),())) else (some ((0 : Int),()))))))))
noncomputable def qax (_N : Nat) (_x : Dens qbF) : Option qgs:=qhd _N _x.1 _x.2.1
theorem qkb (_N : Nat) : SpecD Tryd.prog Gs 64 qbF qbE (qax _N):=mkSpD (fn:=Tryd.f64) (c:=qF Tryd.f64) (C:=qlG _N)
  (a:=.none)
  (by kernel_rfl) rfl (by kernel_rfl) (by kernel_rfl) ⟨rfl,by unfold TOk; kernel_rfl,qaq rfl rfl (List.forall_mem_cons.2 ⟨qmq _N,(List.forall_mem_nil _)⟩),qap rfl rfl (List.forall_mem_nil _),rfl⟩ (fun _x=>by kernel_rfl)
theorem qgm (_N : Nat) : EntOk Tryd.prog Gs (mkP 64 qbF qbE (qax _N)):=entP ⟨Tryd.f64,qF Tryd.f64,by kernel_rfl,by kernel_rfl,rfl⟩ (by kernel_rfl) (qkb _N)
abbrev qaQ : List Kd:=[.dat Sv,.dat Sv]
abbrev qaP : List Kd:=[.dat (.int .i64)]
abbrev qad : Type:=Dens qaP
noncomputable def qgF (_N : Nat) : Ctx:={ T:=[(3,⟨.int .i64,1,8,some (.int .i64),[.int .i64 (0 : Int)],false,[]⟩),(38,⟨.slice 3,1,24,some Sv,[.nil],false,[]⟩)],G:=findE [mkP 64 qbF qbE (qax _N)],I:=findI [],N:=_N,n:=36,fx:=[],fl:=0,gs:=Gs }
noncomputable def qda (_N : Nat) (_v8 : List Int) (_v9 : List Int) : Option qad :=
 (bif (decide ((_v8.length : Int) < (_v9.length : Int))) then (some ((-1 : Int),())) else (some ((0 : Int),())))
noncomputable def qbI (_N : Nat) (_k10 : (List Int × List Int) -> Option qad) (_v1 : List Int) (_v2 : List Int) (_v3 : List Int) (_v4 : Int) (_v5 : Int) (_kn11 : (List Int × List Int × List Int × Int) × Int -> Option qad) : Option qad :=
 (bif (decide (_v5 < _v4)) then (bif (decide (0 <= _v5) && decide (_v5 < (_v3.length : Int))) then (bif (decide (_v5 >= (_v2.length : Int))) then (some ((1 : Int),())) else (bif (decide (0 <= _v5) && decide (_v5 < (_v2.length : Int))) then ((qax _N ((nth (0 : Int) _v3 (_v5).toNat),(nth (0 : Int) _v2 (_v5).toNat),())).bind fun _y12=>(bif (_y12.1 != (0 : Int)) then (some (_y12.1,())) else (_kn11 ((_v1,_v2,_v3,_v4),(IntKind.i64.wrap (_v5 + (1 : Int))))))) else none)) else none) else (_k10 (_v1,_v2)))
noncomputable def qcZ (_N : Nat) (_x1 : List Int) (_x2 : List Int) : Option qad :=
 (joinD (fun (_s : List Int × List Int)=>qda _N _s.1 _s.2) fun _k10=>(loopE (fun (_c : List Int × List Int × List Int × Int) (_s : Int) _kn=>qbI _N _k10 _c.1 _c.2.1 _c.2.2.1 _c.2.2.2 _s _kn) _N (_x1,_x2,_x1,(_x1.length : Int)) (0 : Int)))
noncomputable def qaj (_N : Nat) (_x : Dens qaQ) : Option qad:=qcZ _N _x.1 _x.2.1
theorem qfY (_N : Nat) : SpecD Tryd.prog Gs 65 qaQ qaP (qaj _N):=mkSpD (fn:=Tryd.f65) (c:=qF Tryd.f65) (C:=qgF _N)
  (a:=.two .none (.join 0 ⟨[(0,.sl (.int .i64)),(1,.sl (.int .i64))],[]⟩ (.two .none (.one (.loop 0 ⟨[(0,.sl (.int .i64)),(1,.sl (.int .i64)),(9,.sl (.int .i64)),(10,.int .i64),(11,.int .i64)],[]⟩ [4] .none))) .none))
  (by kernel_rfl) rfl (by kernel_rfl) (by kernel_rfl) ⟨rfl,by unfold TOk; kernel_rfl,qaq rfl rfl (List.forall_mem_cons.2 ⟨qgm _N,(List.forall_mem_nil _)⟩),qap rfl rfl (List.forall_mem_nil _),rfl⟩ (fun _x=>by kernel_rfl)
theorem qfZ (_N : Nat) : EntOk Tryd.prog Gs (mkP 65 qaQ qaP (qaj _N)):=entP ⟨Tryd.f65,qF Tryd.f65,by kernel_rfl,by kernel_rfl,rfl⟩ (by kernel_rfl) (qfY _N)
shelf_lay_g SlLaysF.n6 Slsf 6 at Tryd 79 as lay_sortT
abbrev qas : List Kd:=[.dat Sv]
abbrev qdH : Type:=List Int
noncomputable def qhF (_N : Nat) : Ctx:={ T:=[(3,⟨.int .i64,1,8,some (.int .i64),[.int .i64 (0 : Int)],false,[]⟩),(38,⟨.slice 3,1,24,some Sv,[.nil],false,[]⟩)],G:=findE [],I:=findI [],N:=_N,n:=8,fx:=[],fl:=0,gs:=Gs }
noncomputable def qdL (_N : Nat) (_x1 : List Int) : Option qdH :=
 (bif _x1.isEmpty then (dem2 (some []) (bif (decide ((([] : List Int).length + _x1.length) * 8 <= 140737488355328) && Nat.ble 1 8) then (some (([] : List Int) ++ _x1)) else none)) else (bif (decide ((([] : List Int).length + _x1.length) * 8 <= 140737488355328) && Nat.ble 1 8) then (some (([] : List Int) ++ _x1)) else none))
noncomputable def qN (_N : Nat) (_x : Dens qas) : Option qdH:=qdL _N _x.1
theorem qgI (_N : Nat) : SpecF Tryd.prog Gs 35 qas 3 (.int .i64) (qN _N):=mkSpF (fn:=Tryd.f35) (c:=qF Tryd.f35) (C:=qhF _N)
  (a:=.none)
  (by kernel_rfl) rfl (by kernel_rfl) (by kernel_rfl) ⟨rfl,by unfold TOk; kernel_rfl,qaq rfl rfl (List.forall_mem_nil _),qap rfl rfl (List.forall_mem_nil _),rfl⟩ (fun _x=>by kernel_rfl)
theorem qbR (_N : Nat) : EntOk Tryd.prog Gs (mkF 35 qas 3 (.int .i64) (qN _N)):=entF ⟨Tryd.f35,qF Tryd.f35,by kernel_rfl,by kernel_rfl,rfl⟩ (by kernel_rfl) (Nat.le_of_ble_eq_true (by kernel_rfl)) (qgI _N)
end Go.Proofs.YtgnnhemoocfclaaDoor
