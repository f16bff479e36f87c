import Derived.Test.YtcjecibocjbdmaaDifS
noncomputable section
namespace Go.Proofs.Ytcjecibocjbdmaa
open Go.Abs
abbrev Sj:Sh:=.sl (.int .i64)
abbrev Ks_slices_Clone_Lint_int:List Kd:=[.dat Sj]
abbrev Rt_slices_Clone_Lint_int:Type:=List Int
def C_slices_Clone_Lint_int(_N:Nat):Ctx:={ T:=[(3,⟨.int .i64,1,8,some (.int .i64),[.int .i64 (0:Int)],false,[]⟩),(48,⟨.slice 3,1,24,some Sj,[.nil],false,[]⟩)],G:=findE [],I:=findI [],N:=_N,n:=8,fx:=[],fl:=0,gs:=[] }
def slices_Clone_Lint_int_1(_N:Nat)(_x1:List Int):Option Rt_slices_Clone_Lint_int:=
 (bif _x1.isEmpty then (dem2 (some []) (bif (decide ((([]:List Int).length+_x1.length)*8<=140737488355328)&&Nat.ble 1 8) then (some (([]:List Int)++_x1)) else none)) else (bif (decide ((([]:List Int).length+_x1.length)*8<=140737488355328)&&Nat.ble 1 8) then (some (([]:List Int)++_x1)) else none))
def D_slices_Clone_Lint_int(_N:Nat)(_x:Dens Ks_slices_Clone_Lint_int):Option Rt_slices_Clone_Lint_int:=slices_Clone_Lint_int_1 _N _x.1
theorem sp_slices_Clone_Lint_int(_N:Nat):SpecF Try.prog [] 60 Ks_slices_Clone_Lint_int 3 (.int .i64) (D_slices_Clone_Lint_int _N):=mkSpF (fn:=Try.f60) (c:=bodyOf Try.f60) (C:=C_slices_Clone_Lint_int _N)
  (a:=.none)
  (by kernel_rfl) rfl (by kernel_rfl) (by kernel_rfl) ⟨rfl,by unfold TOk;kernel_rfl,gOk_of rfl rfl (zS _),iOk_of rfl rfl (zS _),rfl⟩ (fun _x=>by kernel_rfl)
abbrev Ks_cmp_isNaN_int:List Kd:=[.dat (.int .i64)]
abbrev Rk_cmp_isNaN_int:List Kd:=[.dat (.bool)]
abbrev Rt_cmp_isNaN_int:Type:=Dens Rk_cmp_isNaN_int
def C_cmp_isNaN_int(_N:Nat):Ctx:={ T:=[],G:=findE [],I:=findI [],N:=_N,n:=6,fx:=[],fl:=0,gs:=[] }
def cmp_isNaN_int_1(_N:Nat)(_x1:Int):Option Rt_cmp_isNaN_int:=
 (some ((_x1 != _x1),()))
def D_cmp_isNaN_int(_N:Nat)(_x:Dens Ks_cmp_isNaN_int):Option Rt_cmp_isNaN_int:=cmp_isNaN_int_1 _N _x.1
theorem sp_cmp_isNaN_int(_N:Nat):SpecD Try.prog [] 101 Ks_cmp_isNaN_int Rk_cmp_isNaN_int (D_cmp_isNaN_int _N):=mkSpD (fn:=Try.f101) (c:=bodyOf Try.f101) (C:=C_cmp_isNaN_int _N)
  (a:=.none)
  (by kernel_rfl) rfl (by kernel_rfl) (by kernel_rfl) ⟨rfl,by unfold TOk;kernel_rfl,gOk_of rfl rfl (zS _),iOk_of rfl rfl (zS _),rfl⟩ (fun _x=>by kernel_rfl)
theorem en_cmp_isNaN_int(_N:Nat):EntOk Try.prog [] (mkP 101 Ks_cmp_isNaN_int Rk_cmp_isNaN_int (D_cmp_isNaN_int _N)):=entP ⟨Try.f101,bodyOf Try.f101,by kernel_rfl,by kernel_rfl,rfl⟩ (by kernel_rfl) (sp_cmp_isNaN_int _N)
abbrev Ks_cmp_Compare_int:List Kd:=[.dat (.int .i64),.dat (.int .i64)]
abbrev Rk_cmp_Compare_int:List Kd:=[.dat (.int .i64)]
abbrev Rt_cmp_Compare_int:Type:=Dens Rk_cmp_Compare_int
def C_cmp_Compare_int(_N:Nat):Ctx:={ T:=[],G:=findE [mkP 101 Ks_cmp_isNaN_int Rk_cmp_isNaN_int (D_cmp_isNaN_int _N)],I:=findI [],N:=_N,n:=20,fx:=[],fl:=0,gs:=[] }
def cmp_Compare_int_1(_N:Nat)(_x1:Int)(_x2:Int):Option Rt_cmp_Compare_int:=
 ((D_cmp_isNaN_int _N (_x1,())).bind fun _y3=>((D_cmp_isNaN_int _N (_x2,())).bind fun _y4=>(bif _y3.1 then (bif _y4.1 then (some ((0:Int),())) else (some ((-1:Int),()))) else (bif _y4.1 then (some ((1:Int),())) else (bif (decide (_x1<_x2)) then (some ((-1:Int),())) else (bif (decide (_x1>_x2)) then (some ((1:Int),())) else (some ((0:Int),()))))))))
def D_cmp_Compare_int(_N:Nat)(_x:Dens Ks_cmp_Compare_int):Option Rt_cmp_Compare_int:=cmp_Compare_int_1 _N _x.1 _x.2.1
theorem sp_cmp_Compare_int(_N:Nat):SpecD Try.prog [] 77 Ks_cmp_Compare_int Rk_cmp_Compare_int (D_cmp_Compare_int _N):=mkSpD (fn:=Try.f77) (c:=bodyOf Try.f77) (C:=C_cmp_Compare_int _N)
  (a:=.none)
  (by kernel_rfl) rfl (by kernel_rfl) (by kernel_rfl) ⟨rfl,by unfold TOk;kernel_rfl,gOk_of rfl rfl (zAQ.2 ⟨en_cmp_isNaN_int _N,(zS _)⟩),iOk_of rfl rfl (zS _),rfl⟩ (fun _x=>by kernel_rfl)
theorem en_cmp_Compare_int(_N:Nat):EntOk Try.prog [] (mkP 77 Ks_cmp_Compare_int Rk_cmp_Compare_int (D_cmp_Compare_int _N)):=entP ⟨Try.f77,bodyOf Try.f77,by kernel_rfl,by kernel_rfl,rfl⟩ (by kernel_rfl) (sp_cmp_Compare_int _N)
abbrev Ks_slices_Compare_Lint_int:List Kd:=[.dat Sj,.dat Sj]
abbrev Rk_slices_Compare_Lint_int:List Kd:=[.dat (.int .i64)]
abbrev Rt_slices_Compare_Lint_int:Type:=Dens Rk_slices_Compare_Lint_int
def C_slices_Compare_Lint_int(_N:Nat):Ctx:={ T:=[(3,⟨.int .i64,1,8,some (.int .i64),[.int .i64 (0:Int)],false,[]⟩),(48,⟨.slice 3,1,24,some Sj,[.nil],false,[]⟩)],G:=findE [mkP 77 Ks_cmp_Compare_int Rk_cmp_Compare_int (D_cmp_Compare_int _N)],I:=findI [],N:=_N,n:=36,fx:=[],fl:=0,gs:=[] }
def slices_Compare_Lint_int_1(_N:Nat)(_v8:List Int)(_v9:List Int):Option Rt_slices_Compare_Lint_int:=
 (bif (decide ((_v8.length:Int)<(_v9.length:Int))) then (some ((-1:Int),())) else (some ((0:Int),())))
def slices_Compare_Lint_int_2(_N:Nat)(_k10:(List Int×List Int)->Option Rt_slices_Compare_Lint_int)(_v1:List Int)(_v2:List Int)(_v3:List Int)(_v4:Int)(_v5:Int)(_kn11:(List Int×List Int×List Int×Int)×Int->Option Rt_slices_Compare_Lint_int):Option Rt_slices_Compare_Lint_int:=
 (bif (decide (_v5<_v4)) then (bif (decide (0<=_v5)&&decide (_v5<(_v3.length:Int))) then (bif (decide (_v5>=(_v2.length:Int))) then (some ((1:Int),())) else (bif (decide (0<=_v5)&&decide (_v5<(_v2.length:Int))) then ((D_cmp_Compare_int _N ((nth (0:Int) _v3 (_v5).toNat),(nth (0:Int) _v2 (_v5).toNat),())).bind fun _y12=>(bif (_y12.1 != (0:Int)) then (some (_y12.1,())) else (_kn11 ((_v1,_v2,_v3,_v4),(IntKind.i64.wrap (_v5+(1:Int))))))) else none)) else none) else (_k10 (_v1,_v2)))
def slices_Compare_Lint_int_3(_N:Nat)(_x1:List Int)(_x2:List Int):Option Rt_slices_Compare_Lint_int:=
 (joinD (fun (_s:List Int×List Int)=>slices_Compare_Lint_int_1 _N _s.1 _s.2) fun _k10=>(loopE (fun (_c:List Int×List Int×List Int×Int) (_s:Int) _kn=>slices_Compare_Lint_int_2 _N _k10 _c.1 _c.2.1 _c.2.2.1 _c.2.2.2 _s _kn) _N (_x1,_x2,_x1,(_x1.length:Int)) (0:Int)))
def D_slices_Compare_Lint_int(_N:Nat)(_x:Dens Ks_slices_Compare_Lint_int):Option Rt_slices_Compare_Lint_int:=slices_Compare_Lint_int_3 _N _x.1 _x.2.1
theorem sp_slices_Compare_Lint_int(_N:Nat):SpecD Try.prog [] 56 Ks_slices_Compare_Lint_int Rk_slices_Compare_Lint_int (D_slices_Compare_Lint_int _N):=mkSpD (fn:=Try.f56) (c:=bodyOf Try.f56) (C:=C_slices_Compare_Lint_int _N)
  (a:=.two .none (.join 0 ⟨[(0,.sl (.int .i64)),(1,.sl (.int .i64))],[]⟩ (.two .none (.one (.loop 0 ⟨[(0,.sl (.int .i64)),(1,.sl (.int .i64)),(9,.sl (.int .i64)),(10,.int .i64),(11,.int .i64)],[]⟩ [4] .none))) .none))
  (by kernel_rfl) rfl (by kernel_rfl) (by kernel_rfl) ⟨rfl,by unfold TOk;kernel_rfl,gOk_of rfl rfl (zAQ.2 ⟨en_cmp_Compare_int _N,(zS _)⟩),iOk_of rfl rfl (zS _),rfl⟩ (fun _x=>by kernel_rfl)
shelf_lay_g SlLaysF0.n6 Slsf 6 at Try 64 as lay_sortDiff
abbrev Ks_ref_TimesSame:List Kd:=[.dat Sj,.dat Sj]
abbrev Rk_ref_TimesSame:List Kd:=[.dat (.bool)]
abbrev Rt_ref_TimesSame:Type:=Dens Rk_ref_TimesSame
def C_ref_TimesSame(_N:Nat):Ctx:={ T:=[(3,⟨.int .i64,1,8,some (.int .i64),[.int .i64 (0:Int)],false,[]⟩),(48,⟨.slice 3,1,24,some Sj,[.nil],false,[]⟩)],G:=findE [],I:=findI [],N:=_N,n:=26,fx:=[],fl:=0,gs:=[] }
def ref_TimesSame_1(_N:Nat):Option Rt_ref_TimesSame:=
 (some (true,()))
def ref_TimesSame_2(_N:Nat)(_k4:Unit->Option Rt_ref_TimesSame)(_v1:List Int)(_v2:List Int)(_v3:Int)(_kn5:(List Int×List Int)×Int->Option Rt_ref_TimesSame):Option Rt_ref_TimesSame:=
 (bif (decide (_v3<(_v1.length:Int))) then (bif (decide (0<=_v3)&&decide (_v3<(_v1.length:Int))) then (bif (decide (0<=_v3)&&decide (_v3<(_v2.length:Int))) then (bif ((nth (0:Int) _v1 (_v3).toNat) != (nth (0:Int) _v2 (_v3).toNat)) then (some (false,())) else (_kn5 ((_v1,_v2),(IntKind.i64.wrap (_v3+(1:Int)))))) else none) else none) else (_k4 ()))
def ref_TimesSame_3(_N:Nat)(_x1:List Int)(_x2:List Int):Option Rt_ref_TimesSame:=
 (bif ((_x1.length:Int) != (_x2.length:Int)) then (some (false,())) else (joinD (fun (_s:Unit)=>ref_TimesSame_1 _N) fun _k4=>(loopE (fun (_c:List Int×List Int) (_s:Int) _kn=>ref_TimesSame_2 _N _k4 _c.1 _c.2 _s _kn) _N (_x1,_x2) (0:Int))))
def D_ref_TimesSame(_N:Nat)(_x:Dens Ks_ref_TimesSame):Option Rt_ref_TimesSame:=ref_TimesSame_3 _N _x.1 _x.2.1
theorem sp_ref_TimesSame(_N:Nat):SpecD Try.prog [] 36 Ks_ref_TimesSame Rk_ref_TimesSame (D_ref_TimesSame _N):=mkSpD (fn:=Try.f36) (c:=bodyOf Try.f36) (C:=C_ref_TimesSame _N)
  (a:=.two .none (.two .none (.join 0 ⟨[],[]⟩ (.two .none (.one (.loop 0 ⟨[(0,.sl (.int .i64)),(1,.sl (.int .i64)),(5,.int .i64)],[]⟩ [2] (.two .none (.two (.one (.two (.draw 0 [.pure,.pure,.pure,.pure,.pure,.pure,.pure,.pure,.pure]) .none)) .none))))) .none)))
  (by kernel_rfl) rfl (by kernel_rfl) (by kernel_rfl) ⟨rfl,by unfold TOk;kernel_rfl,gOk_of rfl rfl (zS _),iOk_of rfl rfl (zS _),rfl⟩ (fun _x=>by kernel_rfl)
theorem en_ref_TimesSame(_N:Nat):EntOk Try.prog [] (mkP 36 Ks_ref_TimesSame Rk_ref_TimesSame (D_ref_TimesSame _N)):=entP ⟨Try.f36,bodyOf Try.f36,by kernel_rfl,by kernel_rfl,rfl⟩ (by kernel_rfl) (sp_ref_TimesSame _N)
end Go.Proofs.Ytcjecibocjbdmaa
end
