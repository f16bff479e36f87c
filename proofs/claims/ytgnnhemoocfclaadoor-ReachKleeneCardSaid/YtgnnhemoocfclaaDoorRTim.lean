import Derived.Test.YtgnnhemoocfclaaDoorAbsSort
import Derived.Test.YtgnnhemoocfclaaDoorAbsSubF
import Derived.Test.YtgnnhemoocfclaaDoorAbsOrd
import Derived.Test.YtgnnhemoocfclaaDoorAbsOpn
import Derived.Test.YtgnnhemoocfclaaDoorGhG
import Derived.KernelRfl
import Derived.Shelf.SlGeneric
import Derived.Ground.SlsfProg
namespace Go.Proofs.YtgnnhemoocfclaaDoor
open Go.Abs
abbrev Sv : Sh:=.sl (.int .i64)
abbrev qov : List Kd:=[.dat Sv]
abbrev qou : List Kd:=[.dat (.int .i64)]
abbrev qcb : Type:=Dens qou
noncomputable def qhd (_N : Nat) : Option qcb :=
 (some ((0 : Int),()))
noncomputable def qeL (_N : Nat) (_k4 : Unit -> Option qcb) (_v1 : List Int) (_v2 : Int) (_v3 : Int) (_kn5 : (List Int × Int) × Int -> Option qcb) : Option qcb :=
 (bif (decide (_v3 < _v2)) then (bif (decide (0 <= _v3) && decide (_v3 < (_v1.length : Int))) then (bif (decide ((nth (0 : Int) _v1 (_v3).toNat) < (0 : Int))) then (some ((2 : Int),())) else (bif (decide ((nth (0 : Int) _v1 (_v3).toNat) > (1048576 : Int))) then (some ((2 : Int),())) else (_kn5 ((_v1,_v2),(IntKind.i64.wrap (_v3 + (1 : Int))))))) else none) else (_k4 ()))
noncomputable def qjy (_N : Nat) (_x1 : List Int) : Option qcb :=
 (bif ((_x1.length : Int) == (0 : Int)) then (some ((1 : Int),())) else (bif (decide ((_x1.length : Int) > (4 : Int))) then (some ((1 : Int),())) else (joinD (fun (_s : Unit)=>qhd _N) fun _k4=>(loopE (fun (_c : List Int × Int) (_s : Int) _kn=>qeL _N _k4 _c.1 _c.2 _s _kn) _N (_x1,(_x1.length : Int)) (0 : Int)))))
noncomputable def qks (_N : Nat) (_x : Dens qov) : Option qcb:=qjy _N _x.1
abbrev qdo : List Kd:=[.dat (.int .i64)]
abbrev qdm : List Kd:=[.dat (.bool)]
abbrev qhM : Type:=Dens qdm
noncomputable def qnN (_N : Nat) : Ctx:={ T:=[],G:=findE [],I:=findI [],N:=_N,n:=6,fx:=[],fl:=0,gs:=Gs }
noncomputable def qih (_N : Nat) (_x1 : Int) : Option qhM :=
 (some ((_x1 != _x1),()))
noncomputable def qbJ (_N : Nat) (_x : Dens qdo) : Option qhM:=qih _N _x.1
theorem qlL (_N : Nat) : SpecD Tryd.prog Gs 84 qdo qdm (qbJ _N):=mkSpD (fn:=Tryd.f84) (c:=qJ Tryd.f84) (C:=qnN _N)
  (a:=.none)
  (by kernel_rfl) rfl (by kernel_rfl) (by kernel_rfl) ⟨rfl,by unfold TOk; kernel_rfl,qaC rfl rfl (List.forall_mem_nil _),qaB rfl rfl (List.forall_mem_nil _),rfl⟩ (fun _x=>by kernel_rfl)
theorem qlQ (_N : Nat) : EntOk Tryd.prog Gs (mkP 84 qdo qdm (qbJ _N)):=entP ⟨Tryd.f84,qJ Tryd.f84,by kernel_rfl,by kernel_rfl,rfl⟩ (by kernel_rfl) (qlL _N)
abbrev qbu : List Kd:=[.dat (.int .i64),.dat (.int .i64)]
abbrev qbt : List Kd:=[.dat (.int .i64)]
abbrev qgo : Type:=Dens qbt
noncomputable def qle (_N : Nat) : Ctx:={ T:=[],G:=findE [mkP 84 qdo qdm (qbJ _N)],I:=findI [],N:=_N,n:=20,fx:=[],fl:=0,gs:=Gs }
noncomputable def qgX (_N : Nat) (_x1 : Int) (_x2 : Int) : Option qgo :=
 ((qbJ _N (_x1,())).bind fun _y3=>((qbJ _N (_x2,())).bind fun _y4=>(bif _y3.1 then (bif _y4.1 then (some ((0 : Int),())) else (some ((-1 : Int),()))) else (bif _y4.1 then (some ((1 : Int),())) else (bif (decide (_x1 < _x2)) then (some ((-1 : Int),())) else (bif (decide (_x1 > _x2)) then (some ((1 : Int),())) else (some ((0 : Int),()))))))))
noncomputable def qar (_N : Nat) (_x : Dens qbu) : Option qgo:=qgX _N _x.1 _x.2.1
theorem qjE (_N : Nat) : SpecD Tryd.prog Gs 64 qbu qbt (qar _N):=mkSpD (fn:=Tryd.f64) (c:=qJ Tryd.f64) (C:=qle _N)
  (a:=.none)
  (by kernel_rfl) rfl (by kernel_rfl) (by kernel_rfl) ⟨rfl,by unfold TOk; kernel_rfl,qaC rfl rfl (List.forall_mem_cons.2 ⟨qlQ _N,(List.forall_mem_nil _)⟩),qaB rfl rfl (List.forall_mem_nil _),rfl⟩ (fun _x=>by kernel_rfl)
theorem qgj (_N : Nat) : EntOk Tryd.prog Gs (mkP 64 qbu qbt (qar _N)):=entP ⟨Tryd.f64,qJ Tryd.f64,by kernel_rfl,by kernel_rfl,rfl⟩ (by kernel_rfl) (qjE _N)
abbrev qaP : List Kd:=[.dat Sv,.dat Sv]
abbrev qaO : List Kd:=[.dat (.int .i64)]
abbrev qaa : Type:=Dens qaO
noncomputable def qgA (_N : Nat) : Ctx:={ T:=[(3,⟨.int .i64,1,8,some (.int .i64),[.int .i64 (0 : Int)],false,[]⟩),(38,⟨.slice 3,1,24,some Sv,[.nil],false,[]⟩)],G:=findE [mkP 64 qbu qbt (qar _N)],I:=findI [],N:=_N,n:=36,fx:=[],fl:=0,gs:=Gs }
noncomputable def qdb (_N : Nat) (_v8 : List Int) (_v9 : List Int) : Option qaa :=
 (bif (decide ((_v8.length : Int) < (_v9.length : Int))) then (some ((-1 : Int),())) else (some ((0 : Int),())))
noncomputable def qbw (_N : Nat) (_k10 : (List Int × List Int) -> Option qaa) (_v1 : List Int) (_v2 : List Int) (_v3 : List Int) (_v4 : Int) (_v5 : Int) (_kn11 : (List Int × List Int × List Int × Int) × Int -> Option qaa) : Option qaa :=
 (bif (decide (_v5 < _v4)) then (bif (decide (0 <= _v5) && decide (_v5 < (_v3.length : Int))) then (bif (decide (_v5 >= (_v2.length : Int))) then (some ((1 : Int),())) else (bif (decide (0 <= _v5) && decide (_v5 < (_v2.length : Int))) then ((qar _N ((nth (0 : Int) _v3 (_v5).toNat),(nth (0 : Int) _v2 (_v5).toNat),())).bind fun _y12=>(bif (_y12.1 != (0 : Int)) then (some (_y12.1,())) else (_kn11 ((_v1,_v2,_v3,_v4),(IntKind.i64.wrap (_v5 + (1 : Int))))))) else none)) else none) else (_k10 (_v1,_v2)))
noncomputable def qda (_N : Nat) (_x1 : List Int) (_x2 : List Int) : Option qaa :=
 (joinD (fun (_s : List Int × List Int)=>qdb _N _s.1 _s.2) fun _k10=>(loopE (fun (_c : List Int × List Int × List Int × Int) (_s : Int) _kn=>qbw _N _k10 _c.1 _c.2.1 _c.2.2.1 _c.2.2.2 _s _kn) _N (_x1,_x2,_x1,(_x1.length : Int)) (0 : Int)))
noncomputable def qag (_N : Nat) (_x : Dens qaP) : Option qaa:=qda _N _x.1 _x.2.1
theorem qfS (_N : Nat) : SpecD Tryd.prog Gs 65 qaP qaO (qag _N):=mkSpD (fn:=Tryd.f65) (c:=qJ Tryd.f65) (C:=qgA _N)
  (a:=.two .none (.join 0 ⟨[(0,.sl (.int .i64)),(1,.sl (.int .i64))],[]⟩ (.two .none (.one (.loop 0 ⟨[(0,.sl (.int .i64)),(1,.sl (.int .i64)),(9,.sl (.int .i64)),(10,.int .i64),(11,.int .i64)],[]⟩ [4] .none))) .none))
  (by kernel_rfl) rfl (by kernel_rfl) (by kernel_rfl) ⟨rfl,by unfold TOk; kernel_rfl,qaC rfl rfl (List.forall_mem_cons.2 ⟨qgj _N,(List.forall_mem_nil _)⟩),qaB rfl rfl (List.forall_mem_nil _),rfl⟩ (fun _x=>by kernel_rfl)
theorem qfT (_N : Nat) : EntOk Tryd.prog Gs (mkP 65 qaP qaO (qag _N)):=entP ⟨Tryd.f65,qJ Tryd.f65,by kernel_rfl,by kernel_rfl,rfl⟩ (by kernel_rfl) (qfS _N)
shelf_lay_g SlLaysF.n6 Slsf 6 at Tryd 79 as lay_sortT
abbrev qaD : List Kd:=[.dat Sv]
abbrev qdF : Type:=List Int
noncomputable def qhy (_N : Nat) : Ctx:={ T:=[(3,⟨.int .i64,1,8,some (.int .i64),[.int .i64 (0 : Int)],false,[]⟩),(38,⟨.slice 3,1,24,some Sv,[.nil],false,[]⟩)],G:=findE [],I:=findI [],N:=_N,n:=8,fx:=[],fl:=0,gs:=Gs }
noncomputable def qdJ (_N : Nat) (_x1 : List Int) : Option qdF :=
 (bif _x1.isEmpty then (dem2 (some []) (bif (decide ((([] : List Int).length + _x1.length) * 8 <= 140737488355328) && Nat.ble 1 8) then (some (([] : List Int) ++ _x1)) else none)) else (bif (decide ((([] : List Int).length + _x1.length) * 8 <= 140737488355328) && Nat.ble 1 8) then (some (([] : List Int) ++ _x1)) else none))
noncomputable def qV (_N : Nat) (_x : Dens qaD) : Option qdF:=qdJ _N _x.1
theorem qgD (_N : Nat) : SpecF Tryd.prog Gs 35 qaD 3 (.int .i64) (qV _N):=mkSpF (fn:=Tryd.f35) (c:=qJ Tryd.f35) (C:=qhy _N)
  (a:=.none)
  (by kernel_rfl) rfl (by kernel_rfl) (by kernel_rfl) ⟨rfl,by unfold TOk; kernel_rfl,qaC rfl rfl (List.forall_mem_nil _),qaB rfl rfl (List.forall_mem_nil _),rfl⟩ (fun _x=>by kernel_rfl)
theorem qdC (_N : Nat) : EntOk Tryd.prog Gs (mkF 35 qaD 3 (.int .i64) (qV _N)):=entF ⟨Tryd.f35,qJ Tryd.f35,by kernel_rfl,by kernel_rfl,rfl⟩ (by kernel_rfl) (Nat.le_of_ble_eq_true (by kernel_rfl)) (qgD _N)
end Go.Proofs.YtgnnhemoocfclaaDoor
