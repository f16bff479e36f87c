import Derived.Test.YtgnnhemoocfclaaDoorAbsSort
import Derived.Test.YtgnnhemoocfclaaDoorAbsSubF
import Derived.Test.YtgnnhemoocfclaaDoorAbsOrd
import Derived.Test.YtgnnhemoocfclaaDoorAbsOpn
import Derived.Test.YtgnnhemoocfclaaDoorGhG
import Derived.KernelRfl
import Derived.Shelf.SlGeneric
import Derived.Ground.SlsfProg
namespace Go.Proofs.YtgnnhemoocfclaaDoor
open Go.Abs
abbrev Su : Sh:=.sl (.int .i64)
abbrev qcS : List Kd:=[.dat Su]
abbrev qcP : List Kd:=[.dat (.int .i64)]
abbrev qcc : Type:=Dens qcP
noncomputable def qqi (_N : Nat) : Ctx:={ T:=[(3,⟨.int .i64,1,8,some (.int .i64),[.int .i64 (0 : Int)],false,[]⟩),(38,⟨.slice 3,1,24,some Su,[.nil],false,[]⟩)],G:=findE [],I:=findI [],N:=_N,n:=26,fx:=[],fl:=0,gs:=Gs }
noncomputable def qgG (_N : Nat) : Option qcc :=
 (some ((0 : Int),()))
noncomputable def qez (_N : Nat) (_k4 : Unit -> Option qcc) (_v1 : List Int) (_v2 : Int) (_v3 : Int) (_kn5 : (List Int × Int) × Int -> Option qcc) : Option qcc :=
 (bif (decide (_v3 < _v2)) then (bif (decide (0 <= _v3) && decide (_v3 < (_v1.length : Int))) then (bif (decide ((nth (0 : Int) _v1 (_v3).toNat) < (0 : Int))) then (some ((2 : Int),())) else (bif (decide ((nth (0 : Int) _v1 (_v3).toNat) > (1048576 : Int))) then (some ((2 : Int),())) else (_kn5 ((_v1,_v2),(IntKind.i64.wrap (_v3 + (1 : Int))))))) else none) else (_k4 ()))
noncomputable def qjj (_N : Nat) (_x1 : List Int) : Option qcc :=
 (bif ((_x1.length : Int) == (0 : Int)) then (some ((1 : Int),())) else (bif (decide ((_x1.length : Int) > (4 : Int))) then (some ((1 : Int),())) else (joinD (fun (_s : Unit)=>qgG _N) fun _k4=>(loopE (fun (_c : List Int × Int) (_s : Int) _kn=>qez _N _k4 _c.1 _c.2 _s _kn) _N (_x1,(_x1.length : Int)) (0 : Int)))))
noncomputable def qbz (_N : Nat) (_x : Dens qcS) : Option qcc:=qjj _N _x.1
theorem qns (_N : Nat) : SpecD Tryd.prog Gs 42 qcS qcP (qbz _N):=mkSpD (fn:=Tryd.f42) (c:=qE Tryd.f42) (C:=qqi _N)
  (a:=.two .none (.two .none (.join 0 ⟨[],[]⟩ (.two .none (.one (.loop 0 ⟨[(13,.sl (.int .i64)),(14,.int .i64),(15,.int .i64)],[]⟩ [2] .none))) .none)))
  (by kernel_rfl) rfl (by kernel_rfl) (by kernel_rfl) ⟨rfl,by unfold TOk; kernel_rfl,qaA rfl rfl (List.forall_mem_nil _),qaz rfl rfl (List.forall_mem_nil _),rfl⟩ (fun _x=>by kernel_rfl)
theorem qiu (_N : Nat) : EntOk Tryd.prog Gs (mkP 42 qcS qcP (qbz _N)):=entP ⟨Tryd.f42,qE Tryd.f42,by kernel_rfl,by kernel_rfl,rfl⟩ (by kernel_rfl) (qns _N)
abbrev qdY : List Kd:=[.dat Su,.dat Su]
abbrev qdS : List Kd:=[.dat (.bool)]
abbrev qcb : Type:=Dens qdS
noncomputable def qqh (_N : Nat) : Ctx:={ T:=[(3,⟨.int .i64,1,8,some (.int .i64),[.int .i64 (0 : Int)],false,[]⟩),(38,⟨.slice 3,1,24,some Su,[.nil],false,[]⟩)],G:=findE [],I:=findI [],N:=_N,n:=21,fx:=[],fl:=0,gs:=Gs }
noncomputable def qgF (_N : Nat) : Option qcb :=
 (some (true,()))
noncomputable def qey (_N : Nat) (_k5 : Unit -> Option qcb) (_v1 : List Int) (_v2 : List Int) (_v3 : Int) (_v4 : Int) (_kn6 : (List Int × List Int × Int) × Int -> Option qcb) : Option qcb :=
 (bif (decide (_v4 < _v3)) then (bif (decide (0 <= _v4) && decide (_v4 < (_v1.length : Int))) then (bif (decide (0 <= _v4) && decide (_v4 < (_v2.length : Int))) then (bif (decide ((nth (0 : Int) _v1 (_v4).toNat) > (nth (0 : Int) _v2 (_v4).toNat))) then (some (false,())) else (_kn6 ((_v1,_v2,_v3),(IntKind.i64.wrap (_v4 + (1 : Int)))))) else none) else none) else (_k5 ()))
noncomputable def qji (_N : Nat) (_x1 : List Int) (_x2 : List Int) : Option qcb :=
 (joinD (fun (_s : Unit)=>qgF _N) fun _k5=>(loopE (fun (_c : List Int × List Int × Int) (_s : Int) _kn=>qey _N _k5 _c.1 _c.2.1 _c.2.2 _s _kn) _N (_x1,_x2,(_x1.length : Int)) (0 : Int)))
noncomputable def qbX (_N : Nat) (_x : Dens qdY) : Option qcb:=qji _N _x.1 _x.2.1
theorem qnr (_N : Nat) : SpecD Tryd.prog Gs 56 qdY qdS (qbX _N):=mkSpD (fn:=Tryd.f56) (c:=qE Tryd.f56) (C:=qqh _N)
  (a:=.two .none (.join 0 ⟨[],[]⟩ (.two .none (.one (.loop 0 ⟨[(0,.sl (.int .i64)),(1,.sl (.int .i64)),(7,.int .i64),(8,.int .i64)],[]⟩ [3] (.two .none (.two .none (.two (.one (.two .none (.two (.draw 0 [.pure,.pure,.pure,.pure,.pure,.pure,.pure,.pure,.pure]) .none))) .none)))))) .none))
  (by kernel_rfl) rfl (by kernel_rfl) (by kernel_rfl) ⟨rfl,by unfold TOk; kernel_rfl,qaA rfl rfl (List.forall_mem_nil _),qaz rfl rfl (List.forall_mem_nil _),rfl⟩ (fun _x=>by kernel_rfl)
theorem qnQ (_N : Nat) : EntOk Tryd.prog Gs (mkP 56 qdY qdS (qbX _N)):=entP ⟨Tryd.f56,qE Tryd.f56,by kernel_rfl,by kernel_rfl,rfl⟩ (by kernel_rfl) (qnr _N)
abbrev qda : List Kd:=[.dat (.int .i64)]
abbrev qcY : List Kd:=[.dat (.bool)]
abbrev qhh : Type:=Dens qcY
noncomputable def qno (_N : Nat) : Ctx:={ T:=[],G:=findE [],I:=findI [],N:=_N,n:=6,fx:=[],fl:=0,gs:=Gs }
noncomputable def qhL (_N : Nat) (_x1 : Int) : Option qhh :=
 (some ((_x1 != _x1),()))
noncomputable def qbO (_N : Nat) (_x : Dens qda) : Option qhh:=qhL _N _x.1
theorem qls (_N : Nat) : SpecD Tryd.prog Gs 84 qda qcY (qbO _N):=mkSpD (fn:=Tryd.f84) (c:=qE Tryd.f84) (C:=qno _N)
  (a:=.none)
  (by kernel_rfl) rfl (by kernel_rfl) (by kernel_rfl) ⟨rfl,by unfold TOk; kernel_rfl,qaA rfl rfl (List.forall_mem_nil _),qaz rfl rfl (List.forall_mem_nil _),rfl⟩ (fun _x=>by kernel_rfl)
theorem qlz (_N : Nat) : EntOk Tryd.prog Gs (mkP 84 qda qcY (qbO _N)):=entP ⟨Tryd.f84,qE Tryd.f84,by kernel_rfl,by kernel_rfl,rfl⟩ (by kernel_rfl) (qls _N)
abbrev qby : List Kd:=[.dat (.int .i64),.dat (.int .i64)]
abbrev qbx : List Kd:=[.dat (.int .i64)]
abbrev qfP : Type:=Dens qbx
noncomputable def qkP (_N : Nat) : Ctx:={ T:=[],G:=findE [mkP 84 qda qcY (qbO _N)],I:=findI [],N:=_N,n:=20,fx:=[],fl:=0,gs:=Gs }
noncomputable def qgA (_N : Nat) (_x1 : Int) (_x2 : Int) : Option qfP :=
 ((qbO _N (_x1,())).bind fun _y3=>((qbO _N (_x2,())).bind fun _y4=>(bif _y3.1 then (bif _y4.1 then (some ((0 : Int),())) else (some ((-1 : Int),()))) else (bif _y4.1 then (some ((1 : Int),())) else (bif (decide (_x1 < _x2)) then (some ((-1 : Int),())) else (bif (decide (_x1 > _x2)) then (some ((1 : Int),())) else (some ((0 : Int),()))))))))
noncomputable def qar (_N : Nat) (_x : Dens qby) : Option qfP:=qgA _N _x.1 _x.2.1
theorem qjq (_N : Nat) : SpecD Tryd.prog Gs 64 qby qbx (qar _N):=mkSpD (fn:=Tryd.f64) (c:=qE Tryd.f64) (C:=qkP _N)
  (a:=.none)
  (by kernel_rfl) rfl (by kernel_rfl) (by kernel_rfl) ⟨rfl,by unfold TOk; kernel_rfl,qaA rfl rfl (List.forall_mem_cons.2 ⟨qlz _N,(List.forall_mem_nil _)⟩),qaz rfl rfl (List.forall_mem_nil _),rfl⟩ (fun _x=>by kernel_rfl)
theorem qfJ (_N : Nat) : EntOk Tryd.prog Gs (mkP 64 qby qbx (qar _N)):=entP ⟨Tryd.f64,qE Tryd.f64,by kernel_rfl,by kernel_rfl,rfl⟩ (by kernel_rfl) (qjq _N)
abbrev qaM : List Kd:=[.dat Su,.dat Su]
abbrev qaL : List Kd:=[.dat (.int .i64)]
abbrev qaa : Type:=Dens qaL
noncomputable def qgf (_N : Nat) : Ctx:={ T:=[(3,⟨.int .i64,1,8,some (.int .i64),[.int .i64 (0 : Int)],false,[]⟩),(38,⟨.slice 3,1,24,some Su,[.nil],false,[]⟩)],G:=findE [mkP 64 qby qbx (qar _N)],I:=findI [],N:=_N,n:=36,fx:=[],fl:=0,gs:=Gs }
noncomputable def qcM (_N : Nat) (_v8 : List Int) (_v9 : List Int) : Option qaa :=
 (bif (decide ((_v8.length : Int) < (_v9.length : Int))) then (some ((-1 : Int),())) else (some ((0 : Int),())))
noncomputable def qbB (_N : Nat) (_k10 : (List Int × List Int) -> Option qaa) (_v1 : List Int) (_v2 : List Int) (_v3 : List Int) (_v4 : Int) (_v5 : Int) (_kn11 : (List Int × List Int × List Int × Int) × Int -> Option qaa) : Option qaa :=
 (bif (decide (_v5 < _v4)) then (bif (decide (0 <= _v5) && decide (_v5 < (_v3.length : Int))) then (bif (decide (_v5 >= (_v2.length : Int))) then (some ((1 : Int),())) else (bif (decide (0 <= _v5) && decide (_v5 < (_v2.length : Int))) then ((qar _N ((nth (0 : Int) _v3 (_v5).toNat),(nth (0 : Int) _v2 (_v5).toNat),())).bind fun _y12=>(bif (_y12.1 != (0 : Int)) then (some (_y12.1,())) else (_kn11 ((_v1,_v2,_v3,_v4),(IntKind.i64.wrap (_v5 + (1 : Int))))))) else none)) else none) else (_k10 (_v1,_v2)))
noncomputable def qcL (_N : Nat) (_x1 : List Int) (_x2 : List Int) : Option qaa :=
 (joinD (fun (_s : List Int × List Int)=>qcM _N _s.1 _s.2) fun _k10=>(loopE (fun (_c : List Int × List Int × List Int × Int) (_s : Int) _kn=>qbB _N _k10 _c.1 _c.2.1 _c.2.2.1 _c.2.2.2 _s _kn) _N (_x1,_x2,_x1,(_x1.length : Int)) (0 : Int)))
noncomputable def qaf (_N : Nat) (_x : Dens qaM) : Option qaa:=qcL _N _x.1 _x.2.1
theorem qfx (_N : Nat) : SpecD Tryd.prog Gs 65 qaM qaL (qaf _N):=mkSpD (fn:=Tryd.f65) (c:=qE Tryd.f65) (C:=qgf _N)
  (a:=.two .none (.join 0 ⟨[(0,.sl (.int .i64)),(1,.sl (.int .i64))],[]⟩ (.two .none (.one (.loop 0 ⟨[(0,.sl (.int .i64)),(1,.sl (.int .i64)),(9,.sl (.int .i64)),(10,.int .i64),(11,.int .i64)],[]⟩ [4] .none))) .none))
  (by kernel_rfl) rfl (by kernel_rfl) (by kernel_rfl) ⟨rfl,by unfold TOk; kernel_rfl,qaA rfl rfl (List.forall_mem_cons.2 ⟨qfJ _N,(List.forall_mem_nil _)⟩),qaz rfl rfl (List.forall_mem_nil _),rfl⟩ (fun _x=>by kernel_rfl)
theorem qfy (_N : Nat) : EntOk Tryd.prog Gs (mkP 65 qaM qaL (qaf _N)):=entP ⟨Tryd.f65,qE Tryd.f65,by kernel_rfl,by kernel_rfl,rfl⟩ (by kernel_rfl) (qfx _N)
shelf_lay_g SlLaysF.n6 Slsf 6 at Tryd 79 as lay_sortT
abbrev qam : List Kd:=[.dat Su]
abbrev qdm : Type:=List Int
noncomputable def qgZ (_N : Nat) : Ctx:={ T:=[(3,⟨.int .i64,1,8,some (.int .i64),[.int .i64 (0 : Int)],false,[]⟩),(38,⟨.slice 3,1,24,some Su,[.nil],false,[]⟩)],G:=findE [],I:=findI [],N:=_N,n:=8,fx:=[],fl:=0,gs:=Gs }
noncomputable def qdq (_N : Nat) (_x1 : List Int) : Option qdm :=
 (bif _x1.isEmpty then (dem2 (some []) (bif (decide ((([] : List Int).length + _x1.length) * 8 <= 140737488355328) && Nat.ble 1 8) then (some (([] : List Int) ++ _x1)) else none)) else (bif (decide ((([] : List Int).length + _x1.length) * 8 <= 140737488355328) && Nat.ble 1 8) then (some (([] : List Int) ++ _x1)) else none))
noncomputable def qK (_N : Nat) (_x : Dens qam) : Option qdm:=qdq _N _x.1
theorem qgi (_N : Nat) : SpecF Tryd.prog Gs 35 qam 3 (.int .i64) (qK _N):=mkSpF (fn:=Tryd.f35) (c:=qE Tryd.f35) (C:=qgZ _N)
  (a:=.none)
  (by kernel_rfl) rfl (by kernel_rfl) (by kernel_rfl) ⟨rfl,by unfold TOk; kernel_rfl,qaA rfl rfl (List.forall_mem_nil _),qaz rfl rfl (List.forall_mem_nil _),rfl⟩ (fun _x=>by kernel_rfl)
theorem qbK (_N : Nat) : EntOk Tryd.prog Gs (mkF 35 qam 3 (.int .i64) (qK _N)):=entF ⟨Tryd.f35,qE Tryd.f35,by kernel_rfl,by kernel_rfl,rfl⟩ (by kernel_rfl) (Nat.le_of_ble_eq_true (by kernel_rfl)) (qgi _N)
end Go.Proofs.YtgnnhemoocfclaaDoor
