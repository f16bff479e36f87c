import Derived.Test.YtgnnhemoocfclaaDoorAbsSort
import Derived.Test.YtgnnhemoocfclaaDoorAbsSubF
import Derived.Test.YtgnnhemoocfclaaDoorAbsOrd
import Derived.Test.YtgnnhemoocfclaaDoorAbsOpn
import Derived.Test.YtgnnhemoocfclaaDoorGhG
import Derived.KernelRfl
import Derived.Shelf.SlGeneric
import Derived.Ground.SlsfProg
namespace Go.Proofs.YtgnnhemoocfclaaDoor
open Go.Abs
abbrev Su : Sh:=.sl (.int .i64)
abbrev qcR : List Kd:=[.dat Su]
abbrev qcO : List Kd:=[.dat (.int .i64)]
abbrev qca : Type:=Dens qcO
noncomputable def qqe (_N : Nat) : Ctx:={ T:=[(3,⟨.int .i64,1,8,some (.int .i64),[.int .i64 (0 : Int)],false,[]⟩),(38,⟨.slice 3,1,24,some Su,[.nil],false,[]⟩)],G:=findE [],I:=findI [],N:=_N,n:=26,fx:=[],fl:=0,gs:=Gs }
noncomputable def qgC (_N : Nat) : Option qca :=
 (some ((0 : Int),()))
noncomputable def qeu (_N : Nat) (_k4 : Unit -> Option qca) (_v1 : List Int) (_v2 : Int) (_v3 : Int) (_kn5 : (List Int × Int) × Int -> Option qca) : Option qca :=
 (bif (decide (_v3 < _v2)) then (bif (decide (0 <= _v3) && decide (_v3 < (_v1.length : Int))) then (bif (decide ((nth (0 : Int) _v1 (_v3).toNat) < (0 : Int))) then (some ((2 : Int),())) else (bif (decide ((nth (0 : Int) _v1 (_v3).toNat) > (1048576 : Int))) then (some ((2 : Int),())) else (_kn5 ((_v1,_v2),(IntKind.i64.wrap (_v3 + (1 : Int))))))) else none) else (_k4 ()))
noncomputable def qji (_N : Nat) (_x1 : List Int) : Option qca :=
 (bif ((_x1.length : Int) == (0 : Int)) then (some ((1 : Int),())) else (bif (decide ((_x1.length : Int) > (4 : Int))) then (some ((1 : Int),())) else (joinD (fun (_s : Unit)=>qgC _N) fun _k4=>(loopE (fun (_c : List Int × Int) (_s : Int) _kn=>qeu _N _k4 _c.1 _c.2 _s _kn) _N (_x1,(_x1.length : Int)) (0 : Int)))))
noncomputable def qby (_N : Nat) (_x : Dens qcR) : Option qca:=qji _N _x.1
theorem qnr (_N : Nat) : SpecD Tryd.prog Gs 42 qcR qcO (qby _N):=mkSpD (fn:=Tryd.f42) (c:=qE Tryd.f42) (C:=qqe _N)
  (a:=.two .none (.two .none (.join 0 ⟨[],[]⟩ (.two .none (.one (.loop 0 ⟨[(13,.sl (.int .i64)),(14,.int .i64),(15,.int .i64)],[]⟩ [2] .none))) .none)))
  (by kernel_rfl) rfl (by kernel_rfl) (by kernel_rfl) ⟨rfl,by unfold TOk; kernel_rfl,qaA rfl rfl (List.forall_mem_nil _),qaz rfl rfl (List.forall_mem_nil _),rfl⟩ (fun _x=>by kernel_rfl)
theorem qiu (_N : Nat) : EntOk Tryd.prog Gs (mkP 42 qcR qcO (qby _N)):=entP ⟨Tryd.f42,qE Tryd.f42,by kernel_rfl,by kernel_rfl,rfl⟩ (by kernel_rfl) (qnr _N)
abbrev qdU : List Kd:=[.dat Su,.dat Su]
abbrev qdO : List Kd:=[.dat (.bool)]
abbrev qbZ : Type:=Dens qdO
noncomputable def qqd (_N : Nat) : Ctx:={ T:=[(3,⟨.int .i64,1,8,some (.int .i64),[.int .i64 (0 : Int)],false,[]⟩),(38,⟨.slice 3,1,24,some Su,[.nil],false,[]⟩)],G:=findE [],I:=findI [],N:=_N,n:=21,fx:=[],fl:=0,gs:=Gs }
noncomputable def qgB (_N : Nat) : Option qbZ :=
 (some (true,()))
noncomputable def qet (_N : Nat) (_k5 : Unit -> Option qbZ) (_v1 : List Int) (_v2 : List Int) (_v3 : Int) (_v4 : Int) (_kn6 : (List Int × List Int × Int) × Int -> Option qbZ) : Option qbZ :=
 (bif (decide (_v4 < _v3)) then (bif (decide (0 <= _v4) && decide (_v4 < (_v1.length : Int))) then (bif (decide (0 <= _v4) && decide (_v4 < (_v2.length : Int))) then (bif (decide ((nth (0 : Int) _v1 (_v4).toNat) > (nth (0 : Int) _v2 (_v4).toNat))) then (some (false,())) else (_kn6 ((_v1,_v2,_v3),(IntKind.i64.wrap (_v4 + (1 : Int)))))) else none) else none) else (_k5 ()))
noncomputable def qjh (_N : Nat) (_x1 : List Int) (_x2 : List Int) : Option qbZ :=
 (joinD (fun (_s : Unit)=>qgB _N) fun _k5=>(loopE (fun (_c : List Int × List Int × Int) (_s : Int) _kn=>qet _N _k5 _c.1 _c.2.1 _c.2.2 _s _kn) _N (_x1,_x2,(_x1.length : Int)) (0 : Int)))
noncomputable def qbU (_N : Nat) (_x : Dens qdU) : Option qbZ:=qjh _N _x.1 _x.2.1
theorem qnq (_N : Nat) : SpecD Tryd.prog Gs 56 qdU qdO (qbU _N):=mkSpD (fn:=Tryd.f56) (c:=qE Tryd.f56) (C:=qqd _N)
  (a:=.two .none (.join 0 ⟨[],[]⟩ (.two .none (.one (.loop 0 ⟨[(0,.sl (.int .i64)),(1,.sl (.int .i64)),(7,.int .i64),(8,.int .i64)],[]⟩ [3] (.two .none (.two .none (.two (.one (.two .none (.two (.draw 0 [.pure,.pure,.pure,.pure,.pure,.pure,.pure,.pure,.pure]) .none))) .none)))))) .none))
  (by kernel_rfl) rfl (by kernel_rfl) (by kernel_rfl) ⟨rfl,by unfold TOk; kernel_rfl,qaA rfl rfl (List.forall_mem_nil _),qaz rfl rfl (List.forall_mem_nil _),rfl⟩ (fun _x=>by kernel_rfl)
theorem qnP (_N : Nat) : EntOk Tryd.prog Gs (mkP 56 qdU qdO (qbU _N)):=entP ⟨Tryd.f56,qE Tryd.f56,by kernel_rfl,by kernel_rfl,rfl⟩ (by kernel_rfl) (qnq _N)
abbrev qda : List Kd:=[.dat (.int .i64)]
abbrev qcX : List Kd:=[.dat (.bool)]
abbrev qhe : Type:=Dens qcX
noncomputable def qnn (_N : Nat) : Ctx:={ T:=[],G:=findE [],I:=findI [],N:=_N,n:=6,fx:=[],fl:=0,gs:=Gs }
noncomputable def qhK (_N : Nat) (_x1 : Int) : Option qhe :=
 (some ((_x1 != _x1),()))
noncomputable def qbM (_N : Nat) (_x : Dens qda) : Option qhe:=qhK _N _x.1
theorem qlr (_N : Nat) : SpecD Tryd.prog Gs 84 qda qcX (qbM _N):=mkSpD (fn:=Tryd.f84) (c:=qE Tryd.f84) (C:=qnn _N)
  (a:=.none)
  (by kernel_rfl) rfl (by kernel_rfl) (by kernel_rfl) ⟨rfl,by unfold TOk; kernel_rfl,qaA rfl rfl (List.forall_mem_nil _),qaz rfl rfl (List.forall_mem_nil _),rfl⟩ (fun _x=>by kernel_rfl)
theorem qlz (_N : Nat) : EntOk Tryd.prog Gs (mkP 84 qda qcX (qbM _N)):=entP ⟨Tryd.f84,qE Tryd.f84,by kernel_rfl,by kernel_rfl,rfl⟩ (by kernel_rfl) (qlr _N)
abbrev qbx : List Kd:=[.dat (.int .i64),.dat (.int .i64)]
abbrev qbw : List Kd:=[.dat (.int .i64)]
abbrev qfM : Type:=Dens qbw
noncomputable def qkN (_N : Nat) : Ctx:={ T:=[],G:=findE [mkP 84 qda qcX (qbM _N)],I:=findI [],N:=_N,n:=20,fx:=[],fl:=0,gs:=Gs }
noncomputable def qgv (_N : Nat) (_x1 : Int) (_x2 : Int) : Option qfM :=
 ((qbM _N (_x1,())).bind fun _y3=>((qbM _N (_x2,())).bind fun _y4=>(bif _y3.1 then (bif _y4.1 then (some ((0 : Int),())) else (some ((-1 : Int),()))) else (bif _y4.1 then (some ((1 : Int),())) else (bif (decide (_x1 < _x2)) then (some ((-1 : Int),())) else (bif (decide (_x1 > _x2)) then (some ((1 : Int),())) else (some ((0 : Int),()))))))))
noncomputable def qar (_N : Nat) (_x : Dens qbx) : Option qfM:=qgv _N _x.1 _x.2.1
theorem qjp (_N : Nat) : SpecD Tryd.prog Gs 64 qbx qbw (qar _N):=mkSpD (fn:=Tryd.f64) (c:=qE Tryd.f64) (C:=qkN _N)
  (a:=.none)
  (by kernel_rfl) rfl (by kernel_rfl) (by kernel_rfl) ⟨rfl,by unfold TOk; kernel_rfl,qaA rfl rfl (List.forall_mem_cons.2 ⟨qlz _N,(List.forall_mem_nil _)⟩),qaz rfl rfl (List.forall_mem_nil _),rfl⟩ (fun _x=>by kernel_rfl)
theorem qfG (_N : Nat) : EntOk Tryd.prog Gs (mkP 64 qbx qbw (qar _N)):=entP ⟨Tryd.f64,qE Tryd.f64,by kernel_rfl,by kernel_rfl,rfl⟩ (by kernel_rfl) (qjp _N)
abbrev qaM : List Kd:=[.dat Su,.dat Su]
abbrev qaL : List Kd:=[.dat (.int .i64)]
abbrev qaa : Type:=Dens qaL
noncomputable def qga (_N : Nat) : Ctx:={ T:=[(3,⟨.int .i64,1,8,some (.int .i64),[.int .i64 (0 : Int)],false,[]⟩),(38,⟨.slice 3,1,24,some Su,[.nil],false,[]⟩)],G:=findE [mkP 64 qbx qbw (qar _N)],I:=findI [],N:=_N,n:=36,fx:=[],fl:=0,gs:=Gs }
noncomputable def qcL (_N : Nat) (_v8 : List Int) (_v9 : List Int) : Option qaa :=
 (bif (decide ((_v8.length : Int) < (_v9.length : Int))) then (some ((-1 : Int),())) else (some ((0 : Int),())))
noncomputable def qbA (_N : Nat) (_k10 : (List Int × List Int) -> Option qaa) (_v1 : List Int) (_v2 : List Int) (_v3 : List Int) (_v4 : Int) (_v5 : Int) (_kn11 : (List Int × List Int × List Int × Int) × Int -> Option qaa) : Option qaa :=
 (bif (decide (_v5 < _v4)) then (bif (decide (0 <= _v5) && decide (_v5 < (_v3.length : Int))) then (bif (decide (_v5 >= (_v2.length : Int))) then (some ((1 : Int),())) else (bif (decide (0 <= _v5) && decide (_v5 < (_v2.length : Int))) then ((qar _N ((nth (0 : Int) _v3 (_v5).toNat),(nth (0 : Int) _v2 (_v5).toNat),())).bind fun _y12=>(bif (_y12.1 != (0 : Int)) then (some (_y12.1,())) else (_kn11 ((_v1,_v2,_v3,_v4),(IntKind.i64.wrap (_v5 + (1 : Int))))))) else none)) else none) else (_k10 (_v1,_v2)))
noncomputable def qcK (_N : Nat) (_x1 : List Int) (_x2 : List Int) : Option qaa :=
 (joinD (fun (_s : List Int × List Int)=>qcL _N _s.1 _s.2) fun _k10=>(loopE (fun (_c : List Int × List Int × List Int × Int) (_s : Int) _kn=>qbA _N _k10 _c.1 _c.2.1 _c.2.2.1 _c.2.2.2 _s _kn) _N (_x1,_x2,_x1,(_x1.length : Int)) (0 : Int)))
noncomputable def qaf (_N : Nat) (_x : Dens qaM) : Option qaa:=qcK _N _x.1 _x.2.1
theorem qfu (_N : Nat) : SpecD Tryd.prog Gs 65 qaM qaL (qaf _N):=mkSpD (fn:=Tryd.f65) (c:=qE Tryd.f65) (C:=qga _N)
  (a:=.two .none (.join 0 ⟨[(0,.sl (.int .i64)),(1,.sl (.int .i64))],[]⟩ (.two .none (.one (.loop 0 ⟨[(0,.sl (.int .i64)),(1,.sl (.int .i64)),(9,.sl (.int .i64)),(10,.int .i64),(11,.int .i64)],[]⟩ [4] .none))) .none))
  (by kernel_rfl) rfl (by kernel_rfl) (by kernel_rfl) ⟨rfl,by unfold TOk; kernel_rfl,qaA rfl rfl (List.forall_mem_cons.2 ⟨qfG _N,(List.forall_mem_nil _)⟩),qaz rfl rfl (List.forall_mem_nil _),rfl⟩ (fun _x=>by kernel_rfl)
theorem qfv (_N : Nat) : EntOk Tryd.prog Gs (mkP 65 qaM qaL (qaf _N)):=entP ⟨Tryd.f65,qE Tryd.f65,by kernel_rfl,by kernel_rfl,rfl⟩ (by kernel_rfl) (qfu _N)
shelf_lay_g SlLaysF.n6 Slsf 6 at Tryd 79 as lay_sortT
abbrev qam : List Kd:=[.dat Su]
abbrev qdm : Type:=List Int
noncomputable def qgV (_N : Nat) : Ctx:={ T:=[(3,⟨.int .i64,1,8,some (.int .i64),[.int .i64 (0 : Int)],false,[]⟩),(38,⟨.slice 3,1,24,some Su,[.nil],false,[]⟩)],G:=findE [],I:=findI [],N:=_N,n:=8,fx:=[],fl:=0,gs:=Gs }
noncomputable def qdq (_N : Nat) (_x1 : List Int) : Option qdm :=
 (bif _x1.isEmpty then (dem2 (some []) (bif (decide ((([] : List Int).length + _x1.length) * 8 <= 140737488355328) && Nat.ble 1 8) then (some (([] : List Int) ++ _x1)) else none)) else (bif (decide ((([] : List Int).length + _x1.length) * 8 <= 140737488355328) && Nat.ble 1 8) then (some (([] : List Int) ++ _x1)) else none))
noncomputable def qJ (_N : Nat) (_x : Dens qam) : Option qdm:=qdq _N _x.1
theorem qgd (_N : Nat) : SpecF Tryd.prog Gs 35 qam 3 (.int .i64) (qJ _N):=mkSpF (fn:=Tryd.f35) (c:=qE Tryd.f35) (C:=qgV _N)
  (a:=.none)
  (by kernel_rfl) rfl (by kernel_rfl) (by kernel_rfl) ⟨rfl,by unfold TOk; kernel_rfl,qaA rfl rfl (List.forall_mem_nil _),qaz rfl rfl (List.forall_mem_nil _),rfl⟩ (fun _x=>by kernel_rfl)
theorem qbI (_N : Nat) : EntOk Tryd.prog Gs (mkF 35 qam 3 (.int .i64) (qJ _N)):=entF ⟨Tryd.f35,qE Tryd.f35,by kernel_rfl,by kernel_rfl,rfl⟩ (by kernel_rfl) (Nat.le_of_ble_eq_true (by kernel_rfl)) (qgd _N)
abbrev qcZ : List Kd:=[.dat Su,.dat Su]
abbrev qcW : List Kd:=[.dat (.bool)]
abbrev qbo : Type:=Dens qcW
noncomputable def qnm (_N : Nat) : Ctx:={ T:=[(3,⟨.int .i64,1,8,some (.int .i64),[.int .i64 (0 : Int)],false,[]⟩),(38,⟨.slice 3,1,24,some Su,[.nil],false,[]⟩)],G:=findE [],I:=findI [],N:=_N,n:=26,fx:=[],fl:=0,gs:=Gs }
noncomputable def qhv (_N : Nat) : Option qbo :=
 (some (true,()))
noncomputable def qeP (_N : Nat) (_k4 : Unit -> Option qbo) (_v1 : List Int) (_v2 : List Int) (_v3 : Int) (_kn5 : (List Int × List Int) × Int -> Option qbo) : Option qbo :=
 (bif (decide (_v3 < (_v1.length : Int))) then (bif (decide (0 <= _v3) && decide (_v3 < (_v1.length : Int))) then (bif (decide (0 <= _v3) && decide (_v3 < (_v2.length : Int))) then (bif ((nth (0 : Int) _v1 (_v3).toNat) != (nth (0 : Int) _v2 (_v3).toNat)) then (some (false,())) else (_kn5 ((_v1,_v2),(IntKind.i64.wrap (_v3 + (1 : Int)))))) else none) else none) else (_k4 ()))
noncomputable def qhu (_N : Nat) (_x1 : List Int) (_x2 : List Int) : Option qbo :=
 (bif ((_x1.length : Int) != (_x2.length : Int)) then (some (false,())) else (joinD (fun (_s : Unit)=>qhv _N) fun _k4=>(loopE (fun (_c : List Int × List Int) (_s : Int) _kn=>qeP _N _k4 _c.1 _c.2 _s _kn) _N (_x1,_x2) (0 : Int))))
noncomputable def qbL (_N : Nat) (_x : Dens qcZ) : Option qbo:=qhu _N _x.1 _x.2.1
theorem qlq (_N : Nat) : SpecD Tryd.prog Gs 40 qcZ qcW (qbL _N):=mkSpD (fn:=Tryd.f40) (c:=qE Tryd.f40) (C:=qnm _N)
  (a:=.two .none (.two .none (.join 0 ⟨[],[]⟩ (.two .none (.one (.loop 0 ⟨[(0,.sl (.int .i64)),(1,.sl (.int .i64)),(5,.int .i64)],[]⟩ [2] (.two .none (.two (.one (.two (.draw 0 [.pure,.pure,.pure,.pure,.pure,.pure,.pure,.pure,.pure]) .none)) .none))))) .none)))
  (by kernel_rfl) rfl (by kernel_rfl) (by kernel_rfl) ⟨rfl,by unfold TOk; kernel_rfl,qaA rfl rfl (List.forall_mem_nil _),qaz rfl rfl (List.forall_mem_nil _),rfl⟩ (fun _x=>by kernel_rfl)
theorem qly (_N : Nat) : EntOk Tryd.prog Gs (mkP 40 qcZ qcW (qbL _N)):=entP ⟨Tryd.f40,qE Tryd.f40,by kernel_rfl,by kernel_rfl,rfl⟩ (by kernel_rfl) (qlq _N)
end Go.Proofs.YtgnnhemoocfclaaDoor
