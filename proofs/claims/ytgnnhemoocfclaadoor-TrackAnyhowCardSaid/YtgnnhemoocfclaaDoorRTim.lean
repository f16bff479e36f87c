import Derived.Test.YtgnnhemoocfclaaDoorAbsSort
import Derived.Test.YtgnnhemoocfclaaDoorAbsSubF
import Derived.Test.YtgnnhemoocfclaaDoorAbsOrd
import Derived.Test.YtgnnhemoocfclaaDoorAbsOpn
import Derived.Test.YtgnnhemoocfclaaDoorGhG
import Derived.KernelRfl
import Derived.Shelf.SlGeneric
import Derived.Ground.SlsfProg
noncomputable section
namespace Go.Proofs.YtgnnhemoocfclaaDoor
open Go.Abs
abbrev Su:Sh:=.sl (.int .i64)
abbrev qen:List Kd:=[.dat Su]
abbrev qeg:List Kd:=[.dat (.int .i64)]
abbrev qcg:Type:=Dens qeg
def qqP(_N:Nat):Ctx:={ T:=[(3,⟨.int .i64,1,8,some (.int .i64),[.int .i64 (0:Int)],false,[]⟩),(38,⟨.slice 3,1,24,some Su,[.nil],false,[]⟩)],G:=findE [],I:=findI [],N:=_N,n:=26,fx:=[],fl:=0,gs:=Gs }
def qgU(_N:Nat):Option qcg:=
 (some ((0:Int),()))
def qeN(_N:Nat)(_k4:Unit->Option qcg)(_v1:List Int)(_v2:Int)(_v3:Int)(_kn5:(List Int×Int)×Int->Option qcg):Option qcg:=
 (bif (decide (_v3<_v2)) then (bif (decide (0<=_v3)&&decide (_v3<(_v1.length:Int))) then (bif (decide ((nth (0:Int) _v1 (_v3).toNat)<(0:Int))) then (some ((2:Int),())) else (bif (decide ((nth (0:Int) _v1 (_v3).toNat)>(1048576:Int))) then (some ((2:Int),())) else (_kn5 ((_v1,_v2),(IntKind.i64.wrap (_v3+(1:Int))))))) else none) else (_k4 ()))
def qjE(_N:Nat)(_x1:List Int):Option qcg:=
 (bif ((_x1.length:Int)==(0:Int)) then (some ((1:Int),())) else (bif (decide ((_x1.length:Int)>(4:Int))) then (some ((1:Int),())) else (joinD (fun (_s:Unit)=>qgU _N) fun _k4=>(loopE (fun (_c:List Int×Int) (_s:Int) _kn=>qeN _N _k4 _c.1 _c.2 _s _kn) _N (_x1,(_x1.length:Int)) (0:Int)))))
def qcG(_N:Nat)(_x:Dens qen):Option qcg:=qjE _N _x.1
theorem qoa(_N:Nat):SpecD Tryd.prog Gs 42 qen qeg (qcG _N):=mkSpD (fn:=Tryd.f42) (c:=qB Tryd.f42) (C:=qqP _N)
  (a:=.two .none (.two .none (.join 0 ⟨[],[]⟩ (.two .none (.one (.loop 0 ⟨[(13,.sl (.int .i64)),(14,.int .i64),(15,.int .i64)],[]⟩ [2] .none))) .none)))
  (by kernel_rfl) rfl (by kernel_rfl) (by kernel_rfl) ⟨rfl,by unfold TOk;kernel_rfl,qax rfl rfl (zD _),qaw rfl rfl (zD _),rfl⟩ (fun _x=>by kernel_rfl)
theorem qoA(_N:Nat):EntOk Tryd.prog Gs (mkP 42 qen qeg (qcG _N)):=entP ⟨Tryd.f42,qB Tryd.f42,by kernel_rfl,by kernel_rfl,rfl⟩ (by kernel_rfl) (qoa _N)
abbrev qdf:List Kd:=[.dat (.int .i64)]
abbrev qdd:List Kd:=[.dat (.bool)]
abbrev qhB:Type:=Dens qdd
def qnW(_N:Nat):Ctx:={ T:=[],G:=findE [],I:=findI [],N:=_N,n:=6,fx:=[],fl:=0,gs:=Gs }
def qif(_N:Nat)(_x1:Int):Option qhB:=
 (some ((_x1 != _x1),()))
def qbQ(_N:Nat)(_x:Dens qdf):Option qhB:=qif _N _x.1
theorem qlO(_N:Nat):SpecD Tryd.prog Gs 84 qdf qdd (qbQ _N):=mkSpD (fn:=Tryd.f84) (c:=qB Tryd.f84) (C:=qnW _N)
  (a:=.none)
  (by kernel_rfl) rfl (by kernel_rfl) (by kernel_rfl) ⟨rfl,by unfold TOk;kernel_rfl,qax rfl rfl (zD _),qaw rfl rfl (zD _),rfl⟩ (fun _x=>by kernel_rfl)
theorem qlW(_N:Nat):EntOk Tryd.prog Gs (mkP 84 qdf qdd (qbQ _N)):=entP ⟨Tryd.f84,qB Tryd.f84,by kernel_rfl,by kernel_rfl,rfl⟩ (by kernel_rfl) (qlO _N)
abbrev qbe:List Kd:=[.dat (.int .i64),.dat (.int .i64)]
abbrev qbc:List Kd:=[.dat (.int .i64)]
abbrev qgh:Type:=Dens qbc
def qlj(_N:Nat):Ctx:={ T:=[],G:=findE [mkP 84 qdf qdd (qbQ _N)],I:=findI [],N:=_N,n:=20,fx:=[],fl:=0,gs:=Gs }
def qgP(_N:Nat)(_x1:Int)(_x2:Int):Option qgh:=
 ((qbQ _N (_x1,())).bind fun _y3=>((qbQ _N (_x2,())).bind fun _y4=>(bif _y3.1 then (bif _y4.1 then (some ((0:Int),())) else (some ((-1:Int),()))) else (bif _y4.1 then (some ((1:Int),())) else (bif (decide (_x1<_x2)) then (some ((-1:Int),())) else (bif (decide (_x1>_x2)) then (some ((1:Int),())) else (some ((0:Int),()))))))))
def qac(_N:Nat)(_x:Dens qbe):Option qgh:=qgP _N _x.1 _x.2.1
theorem qjK(_N:Nat):SpecD Tryd.prog Gs 64 qbe qbc (qac _N):=mkSpD (fn:=Tryd.f64) (c:=qB Tryd.f64) (C:=qlj _N)
  (a:=.none)
  (by kernel_rfl) rfl (by kernel_rfl) (by kernel_rfl) ⟨rfl,by unfold TOk;kernel_rfl,qax rfl rfl (zG.2 ⟨qlW _N,(zD _)⟩),qaw rfl rfl (zD _),rfl⟩ (fun _x=>by kernel_rfl)
theorem qdG(_N:Nat):EntOk Tryd.prog Gs (mkP 64 qbe qbc (qac _N)):=entP ⟨Tryd.f64,qB Tryd.f64,by kernel_rfl,by kernel_rfl,rfl⟩ (by kernel_rfl) (qjK _N)
abbrev qau:List Kd:=[.dat Su,.dat Su]
abbrev qat:List Kd:=[.dat (.int .i64)]
abbrev qae:Type:=Dens qat
def qgu(_N:Nat):Ctx:={ T:=[(3,⟨.int .i64,1,8,some (.int .i64),[.int .i64 (0:Int)],false,[]⟩),(38,⟨.slice 3,1,24,some Su,[.nil],false,[]⟩)],G:=findE [mkP 64 qbe qbc (qac _N)],I:=findI [],N:=_N,n:=36,fx:=[],fl:=0,gs:=Gs }
def qcT(_N:Nat)(_v8:List Int)(_v9:List Int):Option qae:=
 (bif (decide ((_v8.length:Int)<(_v9.length:Int))) then (some ((-1:Int),())) else (some ((0:Int),())))
def qbA(_N:Nat)(_k10:(List Int×List Int)->Option qae)(_v1:List Int)(_v2:List Int)(_v3:List Int)(_v4:Int)(_v5:Int)(_kn11:(List Int×List Int×List Int×Int)×Int->Option qae):Option qae:=
 (bif (decide (_v5<_v4)) then (bif (decide (0<=_v5)&&decide (_v5<(_v3.length:Int))) then (bif (decide (_v5>=(_v2.length:Int))) then (some ((1:Int),())) else (bif (decide (0<=_v5)&&decide (_v5<(_v2.length:Int))) then ((qac _N ((nth (0:Int) _v3 (_v5).toNat),(nth (0:Int) _v2 (_v5).toNat),())).bind fun _y12=>(bif (_y12.1 != (0:Int)) then (some (_y12.1,())) else (_kn11 ((_v1,_v2,_v3,_v4),(IntKind.i64.wrap (_v5+(1:Int))))))) else none)) else none) else (_k10 (_v1,_v2)))
def qcS(_N:Nat)(_x1:List Int)(_x2:List Int):Option qae:=
 (joinD (fun (_s:List Int×List Int)=>qcT _N _s.1 _s.2) fun _k10=>(loopE (fun (_c:List Int×List Int×List Int×Int) (_s:Int) _kn=>qbA _N _k10 _c.1 _c.2.1 _c.2.2.1 _c.2.2.2 _s _kn) _N (_x1,_x2,_x1,(_x1.length:Int)) (0:Int)))
def qQ(_N:Nat)(_x:Dens qau):Option qae:=qcS _N _x.1 _x.2.1
theorem qfS(_N:Nat):SpecD Tryd.prog Gs 65 qau qat (qQ _N):=mkSpD (fn:=Tryd.f65) (c:=qB Tryd.f65) (C:=qgu _N)
  (a:=.two .none (.join 0 ⟨[(0,.sl (.int .i64)),(1,.sl (.int .i64))],[]⟩ (.two .none (.one (.loop 0 ⟨[(0,.sl (.int .i64)),(1,.sl (.int .i64)),(9,.sl (.int .i64)),(10,.int .i64),(11,.int .i64)],[]⟩ [4] .none))) .none))
  (by kernel_rfl) rfl (by kernel_rfl) (by kernel_rfl) ⟨rfl,by unfold TOk;kernel_rfl,qax rfl rfl (zG.2 ⟨qdG _N,(zD _)⟩),qaw rfl rfl (zD _),rfl⟩ (fun _x=>by kernel_rfl)
theorem qcK(_N:Nat):EntOk Tryd.prog Gs (mkP 65 qau qat (qQ _N)):=entP ⟨Tryd.f65,qB Tryd.f65,by kernel_rfl,by kernel_rfl,rfl⟩ (by kernel_rfl) (qfS _N)
shelf_lay_g SlLaysF.n6 Slsf 6 at Tryd 79 as lay_sortT
abbrev qab:List Kd:=[.dat Su]
abbrev qdv:Type:=List Int
def qht(_N:Nat):Ctx:={ T:=[(3,⟨.int .i64,1,8,some (.int .i64),[.int .i64 (0:Int)],false,[]⟩),(38,⟨.slice 3,1,24,some Su,[.nil],false,[]⟩)],G:=findE [],I:=findI [],N:=_N,n:=8,fx:=[],fl:=0,gs:=Gs }
def qdz(_N:Nat)(_x1:List Int):Option qdv:=
 (bif _x1.isEmpty then (dem2 (some []) (bif (decide ((([]:List Int).length+_x1.length)*8<=140737488355328)&&Nat.ble 1 8) then (some (([]:List Int)++_x1)) else none)) else (bif (decide ((([]:List Int).length+_x1.length)*8<=140737488355328)&&Nat.ble 1 8) then (some (([]:List Int)++_x1)) else none))
def qF(_N:Nat)(_x:Dens qab):Option qdv:=qdz _N _x.1
theorem qdn(_N:Nat):SpecF Tryd.prog Gs 35 qab 3 (.int .i64) (qF _N):=mkSpF (fn:=Tryd.f35) (c:=qB Tryd.f35) (C:=qht _N)
  (a:=.none)
  (by kernel_rfl) rfl (by kernel_rfl) (by kernel_rfl) ⟨rfl,by unfold TOk;kernel_rfl,qax rfl rfl (zD _),qaw rfl rfl (zD _),rfl⟩ (fun _x=>by kernel_rfl)
theorem qdq(_N:Nat):EntOk Tryd.prog Gs (mkF 35 qab 3 (.int .i64) (qF _N)):=entF ⟨Tryd.f35,qB Tryd.f35,by kernel_rfl,by kernel_rfl,rfl⟩ (by kernel_rfl) (zF (by kernel_rfl)) (qdn _N)
theorem qgp(_N:Nat):EntOk Tryd.prog Gs (mkQ 35 qab [.dat Su] (fun _x=>(qF _N _x).map fun _y=>(_y,()))):=entQ ⟨Tryd.f35,qB Tryd.f35,by kernel_rfl,by kernel_rfl,rfl⟩ (qoN (qdn _N))
abbrev qcd:List Kd:=[.dat Su,.dat Su]
abbrev qcb:List Kd:=[.dat (.bool)]
abbrev qbu:Type:=Dens qcb
def qnV(_N:Nat):Ctx:={ T:=[(3,⟨.int .i64,1,8,some (.int .i64),[.int .i64 (0:Int)],false,[]⟩),(38,⟨.slice 3,1,24,some Su,[.nil],false,[]⟩)],G:=findE [],I:=findI [],N:=_N,n:=26,fx:=[],fl:=0,gs:=Gs }
def qdB(_N:Nat):Option qbu:=
 (some (true,()))
def qbH(_N:Nat)(_k4:Unit->Option qbu)(_v1:List Int)(_v2:List Int)(_v3:Int)(_kn5:(List Int×List Int)×Int->Option qbu):Option qbu:=
 (bif (decide (_v3<(_v1.length:Int))) then (bif (decide (0<=_v3)&&decide (_v3<(_v1.length:Int))) then (bif (decide (0<=_v3)&&decide (_v3<(_v2.length:Int))) then (bif ((nth (0:Int) _v1 (_v3).toNat) != (nth (0:Int) _v2 (_v3).toNat)) then (some (false,())) else (_kn5 ((_v1,_v2),(IntKind.i64.wrap (_v3+(1:Int)))))) else none) else none) else (_k4 ()))
def qfi(_N:Nat)(_x1:List Int)(_x2:List Int):Option qbu:=
 (bif ((_x1.length:Int) != (_x2.length:Int)) then (some (false,())) else (joinD (fun (_s:Unit)=>qdB _N) fun _k4=>(loopE (fun (_c:List Int×List Int) (_s:Int) _kn=>qbH _N _k4 _c.1 _c.2 _s _kn) _N (_x1,_x2) (0:Int))))
def qaG(_N:Nat)(_x:Dens qcd):Option qbu:=qfi _N _x.1 _x.2.1
theorem qlN(_N:Nat):SpecD Tryd.prog Gs 40 qcd qcb (qaG _N):=mkSpD (fn:=Tryd.f40) (c:=qB Tryd.f40) (C:=qnV _N)
  (a:=.two .none (.two .none (.join 0 ⟨[],[]⟩ (.two .none (.one (.loop 0 ⟨[(0,.sl (.int .i64)),(1,.sl (.int .i64)),(5,.int .i64)],[]⟩ [2] (.two .none (.two (.one (.two (.draw 0 [.pure,.pure,.pure,.pure,.pure,.pure,.pure,.pure,.pure]) .none)) .none))))) .none)))
  (by kernel_rfl) rfl (by kernel_rfl) (by kernel_rfl) ⟨rfl,by unfold TOk;kernel_rfl,qax rfl rfl (zD _),qaw rfl rfl (zD _),rfl⟩ (fun _x=>by kernel_rfl)
theorem qhA(_N:Nat):EntOk Tryd.prog Gs (mkP 40 qcd qcb (qaG _N)):=entP ⟨Tryd.f40,qB Tryd.f40,by kernel_rfl,by kernel_rfl,rfl⟩ (by kernel_rfl) (qlN _N)
end Go.Proofs.YtgnnhemoocfclaaDoor
end
