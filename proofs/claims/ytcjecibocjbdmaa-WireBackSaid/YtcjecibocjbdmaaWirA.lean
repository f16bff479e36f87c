import Derived.Test.YtcjecibocjbdmaaWirE
noncomputable section
namespace Go.Proofs.Ytcjecibocjbdmaa
open Go.Abs
abbrev SG:Sh:=.sl (.int .i64)
abbrev SE:Sh:=.pair (.int .i64) (.pair (.int .i64) (.int .i64))
abbrev SC:Sh:=.sl (.int .u8)
abbrev SB:Sh:=.pair (.sl (.int .i64)) (.sl (.pair (.int .i64) (.pair (.int .i64) (.int .i64))))
abbrev Yo:Type:=List Int×List Int
abbrev Yn:Type:=Int×Int×Int
abbrev Ym:Type:=Int×List Int
abbrev Yl:Type:=List Int×List (Int×Int×Int)
abbrev Ks_wire_Num:List Kd:=[.dat (.int .i64)]
abbrev Rt_wire_Num:Type:=List Int
def C_wire_Num(_N:Nat):Ctx:={ T:=[(2,⟨.int .i64,1,8,some (.int .i64),[.int .i64 (0:Int)],false,[]⟩),(5,⟨.int .u8,1,1,some (.int .u8),[.int .u8 (0:Int)],false,[]⟩),(61,⟨.slice 5,1,24,some SC,[.nil],false,[]⟩),(143,⟨.int .u64,1,8,some (.int .u64),[.int .u64 (0:Int)],false,[]⟩)],G:=findE [],I:=findI [],N:=_N,n:=27,fx:=[0],fl:=0,gs:=[] }
def wire_Num_1(_N:Nat)(_v3:Int)(_v4:List Int):Option Rt_wire_Num:=
 (bif (decide ((_v4.length+([(IntKind.u8.wrap _v3)]).length)*1<=140737488355328)&&Nat.ble 1 1) then (some (_v4 ++ [(IntKind.u8.wrap _v3)])) else none)
def wire_Num_2(_N:Nat)(_k5:Ym->Option Rt_wire_Num)(_v1:Int)(_v2:List Int)(_kn6:Unit×Ym->Option Rt_wire_Num):Option Rt_wire_Num:=
 (bif (decide (_v1>=(128:Int))) then (bif (decide ((_v2.length+([(ior .u8 (IntKind.u8.wrap _v1) (128:Int))]).length)*1<=140737488355328)&&Nat.ble 1 1) then (bif (decide ((7:Int)<0)) then none else (_kn6 ((),((ishr .u64 _v1 (7:Int)),(_v2 ++ [(ior .u8 (IntKind.u8.wrap _v1) (128:Int))]))))) else none) else (_k5 (_v1,_v2)))
def wire_Num_3(_N:Nat)(_x1:Int):Option Rt_wire_Num:=
 (bif (decide ((1:Int)<0)) then none else (bif (decide ((63:Int)<0)) then none else (joinD (fun (_s:Int×List Int)=>wire_Num_1 _N _s.1 _s.2) fun _k5=>(loopE (fun (_c:Unit) (_s:Int×List Int) _kn=>wire_Num_2 _N _k5 _s.1 _s.2 _kn) _N () ((ixor .u64 (ishl .u64 (IntKind.u64.wrap _x1) (1:Int)) (IntKind.u64.wrap (ishr .i64 _x1 (63:Int)))),[])))))
def D_wire_Num(_N:Nat)(_x:Dens Ks_wire_Num):Option Rt_wire_Num:=wire_Num_3 _N _x.1
theorem sp_wire_Num(_N:Nat):SpecF Try.prog [] 81 Ks_wire_Num 5 (.int .u8) (D_wire_Num _N):=mkSpF (fn:=Try.f81) (c:=bodyOf Try.f81) (C:=C_wire_Num _N)
  (a:=.two .none (.two .none (.two .none (.join 1 ⟨[(3,.int .u64),(4,.slc 0 0)],[.row false 0 5 (.int .u8)]⟩ (.one (.obj 4 5 (.int .u8) (.loop 1 ⟨[(3,.int .u64),(4,.slc 0 0)],[.row false 0 5 (.int .u8)]⟩ [0,1] .none))) .none))))
  (by kernel_rfl) rfl (by kernel_rfl) (by kernel_rfl) ⟨rfl,by unfold TOk;kernel_rfl,gOk_of rfl rfl (zF _),iOk_of rfl rfl (zF _),rfl⟩ (fun _x=>by kernel_rfl)
theorem en_wire_Num(_N:Nat):EntOk Try.prog [] (mkF 81 Ks_wire_Num 5 (.int .u8) (D_wire_Num _N)):=entF ⟨Try.f81,bodyOf Try.f81,by kernel_rfl,by kernel_rfl,rfl⟩ (by kernel_rfl) (zD (by kernel_rfl)) (sp_wire_Num _N)
abbrev Ks_wire_Sum:List Kd:=[.dat SC]
abbrev Rk_wire_Sum:List Kd:=[.dat (.int .i64)]
abbrev Rt_wire_Sum:Type:=Dens Rk_wire_Sum
def C_wire_Sum(_N:Nat):Ctx:={ T:=[(3,⟨.int .i64,1,8,some (.int .i64),[.int .i64 (0:Int)],false,[]⟩),(5,⟨.int .u8,1,1,some (.int .u8),[.int .u8 (0:Int)],false,[]⟩),(61,⟨.slice 5,1,24,some SC,[.nil],false,[]⟩)],G:=findE [],I:=findI [],N:=_N,n:=26,fx:=[],fl:=0,gs:=[] }
def wire_Sum_1(_N:Nat)(_v5:Int):Option Rt_wire_Sum:=
 (some (_v5,()))
def wire_Sum_2(_N:Nat)(_k6:Int->Option Rt_wire_Sum)(_v1:List Int)(_v2:Int)(_v3:Int)(_v4:Int)(_kn7:List Int×Yn->Option Rt_wire_Sum):Option Rt_wire_Sum:=
 (bif (decide (_v4>=(0:Int))) then (bif (decide (0<=_v4)&&decide (_v4<(_v1.length:Int))) then (bif ((65521:Int)==0) then none else (bif ((65521:Int)==0) then none else (_kn7 (_v1,(((IntKind.i64.wrap (_v2+(IntKind.i64.wrap (nth (0:Int) _v1 (_v4).toNat)))).tmod (65521:Int)),((IntKind.i64.wrap (_v3+((IntKind.i64.wrap (_v2+(IntKind.i64.wrap (nth (0:Int) _v1 (_v4).toNat)))).tmod (65521:Int)))).tmod (65521:Int)),(IntKind.i64.wrap (_v4 - (1:Int)))))))) else none) else (_k6 _v3))
def wire_Sum_3(_N:Nat)(_x1:List Int):Option Rt_wire_Sum:=
 (joinD (fun (_s:Int)=>wire_Sum_1 _N _s) fun _k6=>(loopE (fun (_c:List Int) (_s:Int×Int×Int) _kn=>wire_Sum_2 _N _k6 _c _s.1 _s.2.1 _s.2.2 _kn) _N _x1 ((0:Int),(0:Int),(IntKind.i64.wrap ((_x1.length:Int) - (1:Int))))))
def D_wire_Sum(_N:Nat)(_x:Dens Ks_wire_Sum):Option Rt_wire_Sum:=wire_Sum_3 _N _x.1
theorem sp_wire_Sum(_N:Nat):SpecD Try.prog [] 42 Ks_wire_Sum Rk_wire_Sum (D_wire_Sum _N):=mkSpD (fn:=Try.f42) (c:=bodyOf Try.f42) (C:=C_wire_Sum _N)
  (a:=.two .none (.two .none (.join 0 ⟨[(4,.int .i64)],[]⟩ (.two .none (.one (.loop 0 ⟨[(0,.sl (.int .u8)),(3,.int .i64),(4,.int .i64),(5,.int .i64)],[]⟩ [1,2,3] .none))) .none)))
  (by kernel_rfl) rfl (by kernel_rfl) (by kernel_rfl) ⟨rfl,by unfold TOk;kernel_rfl,gOk_of rfl rfl (zF _),iOk_of rfl rfl (zF _),rfl⟩ (fun _x=>by kernel_rfl)
theorem en_wire_Sum(_N:Nat):EntOk Try.prog [] (mkP 42 Ks_wire_Sum Rk_wire_Sum (D_wire_Sum _N)):=entP ⟨Try.f42,bodyOf Try.f42,by kernel_rfl,by kernel_rfl,rfl⟩ (by kernel_rfl) (sp_wire_Sum _N)
abbrev Sg_wire_nums_int_h:Sig:=⟨[.form .nil,.form (.slc 0 0)],[.row false 0 3 (.int .i64)],
 [.form (.slc 1 0)],[.row false 0 3 (.int .i64),.row false 0 5 (.int .u8)],[]⟩
abbrev Rt_wire_nums_int_h:Type:=List Int×List Int
def C_wire_nums_int_h(_N:Nat):Ctx:={ T:=[(3,⟨.int .i64,1,8,some (.int .i64),[.int .i64 (0:Int)],false,[]⟩),(5,⟨.int .u8,1,1,some (.int .u8),[.int .u8 (0:Int)],false,[]⟩),(48,⟨.slice 3,1,24,some SG,[.nil],false,[]⟩),(61,⟨.slice 5,1,24,some SC,[.nil],false,[]⟩)],G:=findE [mkF 81 Ks_wire_Num 5 (.int .u8) (D_wire_Num _N)],I:=findI [],N:=_N,n:=19,fx:=[1],fl:=1,gs:=[] }
def wire_nums_int_h_1(_N:Nat)(_v8:List Int)(_v9:List Int):Option Rt_wire_nums_int_h:=
 (some (_v8,_v9))
def wire_nums_int_h_2(_N:Nat)(_k10:Yo->Option Rt_wire_nums_int_h)(_v1:Int)(_v3:List Int)(_v2:Int)(_v5:List Int)(_kn11:Ym×Ym->Option Rt_wire_nums_int_h):Option Rt_wire_nums_int_h:=
 (bif (decide (_v2<_v1)) then (bif (decide (0<=_v2)&&decide (_v2<(_v3.length:Int))) then ((D_wire_Num _N ((nth (0:Int) _v3 ((_v2).toNat)),())).bind fun _y12=>(bif (decide ((_v5.length+_y12.length)*1<=140737488355328)&&Nat.ble 1 1) then (_kn11 ((_v1,_v3),((IntKind.i64.wrap (_v2+(1:Int))),(_v5++_y12)))) else none)) else none) else (_k10 (_v3,_v5)))
def wire_nums_int_h_3(_N:Nat)(_x1:List Int):Option Rt_wire_nums_int_h:=
 (joinD (fun (_s:List Int×List Int)=>wire_nums_int_h_1 _N _s.1 _s.2) fun _k10=>(loopE (fun (_c:Int×List Int) (_s:Int×List Int) _kn=>wire_nums_int_h_2 _N _k10 _c.1 _c.2 _s.1 _s.2 _kn) _N ((_x1.length:Int),_x1) ((0:Int),[])))
def D_wire_nums_int_h(_N:Nat)(_x:List Int):Option Rt_wire_nums_int_h:=wire_nums_int_h_3 _N _x
theorem sp_wire_nums_int_h(_N:Nat):SpecH Try.prog [] 66 Sg_wire_nums_int_h (D_wire_nums_int_h _N):=mkSpH (fn:=Try.f66) (c:=bodyOf Try.f66) (C:=(C_wire_nums_int_h _N))
  (a:=.two .none (.join 2 ⟨[(0,.slc 1 0)],[.row false 0 3 (.int .i64),.row false 0 5 (.int .u8)]⟩ (.two .none (.one (.obj 0 5 (.int .u8) (.loop 2 ⟨[(0,.slc 1 0),(7,.slc 0 0),(8,.int .i64),(9,.int .i64)],[.row false 0 3 (.int .i64),.row false 0 5 (.int .u8)]⟩ [1,3] .none)))) .none))
  (by kernel_rfl) rfl (by kernel_rfl) (by kernel_rfl) (by kernel_rfl) rfl ⟨rfl,by unfold TOk;kernel_rfl,gOk_of rfl rfl (zI.2 ⟨en_wire_Num _N,(zF _)⟩),iOk_of rfl rfl (zF _),rfl⟩ (fun _x=>by kernel_rfl)
theorem en_wire_nums_int_h(_N:Nat):EntOk Try.prog [] (mkHe 66 Sg_wire_nums_int_h (D_wire_nums_int_h _N)):=entH ⟨Try.f66,bodyOf Try.f66,by kernel_rfl,by kernel_rfl,rfl⟩ (sp_wire_nums_int_h _N)
abbrev Sg_wire_nums_int_h2:Sig:=⟨[.form (.slc 0 0),.form (.slc 1 0)],[.row false 0 5 (.int .u8),.row false 0 3 (.int .i64)],
 [.form (.slc 0 1)],[.row false 1 5 (.int .u8),.row false 0 3 (.int .i64)],[]⟩
abbrev Rt_wire_nums_int_h2:Type:=List Int×List Int
def C_wire_nums_int_h2(_N:Nat):Ctx:={ T:=[(3,⟨.int .i64,1,8,some (.int .i64),[.int .i64 (0:Int)],false,[]⟩),(5,⟨.int .u8,1,1,some (.int .u8),[.int .u8 (0:Int)],false,[]⟩),(48,⟨.slice 3,1,24,some SG,[.nil],false,[]⟩),(61,⟨.slice 5,1,24,some SC,[.nil],false,[]⟩)],G:=findE [mkF 81 Ks_wire_Num 5 (.int .u8) (D_wire_Num _N)],I:=findI [],N:=_N,n:=19,fx:=[0],fl:=2,gs:=[] }
def wire_nums_int_h2_1(_N:Nat)(_v7:List Int)(_v8:List Int):Option Rt_wire_nums_int_h2:=
 (some (_v7,_v8))
def wire_nums_int_h2_2(_N:Nat)(_k9:Yo->Option Rt_wire_nums_int_h2)(_v1:Int)(_v4:List Int)(_v2:Int)(_v3:List Int)(_kn10:Ym×Ym->Option Rt_wire_nums_int_h2):Option Rt_wire_nums_int_h2:=
 (bif (decide (_v2<_v1)) then (bif (decide (0<=_v2)&&decide (_v2<(_v4.length:Int))) then ((D_wire_Num _N ((nth (0:Int) _v4 ((_v2).toNat)),())).bind fun _y11=>(bif (decide ((_v3.length+_y11.length)*1<=140737488355328)&&Nat.ble 1 1) then (_kn10 ((_v1,_v4),((IntKind.i64.wrap (_v2+(1:Int))),(_v3++_y11)))) else none)) else none) else (_k9 (_v3,_v4)))
def wire_nums_int_h2_3(_N:Nat)(_x1:List Int)(_x2:List Int):Option Rt_wire_nums_int_h2:=
 (joinD (fun (_s:List Int×List Int)=>wire_nums_int_h2_1 _N _s.1 _s.2) fun _k9=>(loopE (fun (_c:Int×List Int) (_s:Int×List Int) _kn=>wire_nums_int_h2_2 _N _k9 _c.1 _c.2 _s.1 _s.2 _kn) _N ((_x2.length:Int),_x2) ((0:Int),_x1)))
def D_wire_nums_int_h2(_N:Nat)(_x:List Int×List Int):Option Rt_wire_nums_int_h2:=wire_nums_int_h2_3 _N _x.1 _x.2
theorem sp_wire_nums_int_h2(_N:Nat):SpecH Try.prog [] 66 Sg_wire_nums_int_h2 (D_wire_nums_int_h2 _N):=mkSpH (fn:=Try.f66) (c:=bodyOf Try.f66) (C:=(C_wire_nums_int_h2 _N))
  (a:=.two .none (.join 2 ⟨[(0,.slc 0 0)],[.row false 0 5 (.int .u8),.row false 0 3 (.int .i64)]⟩ (.two .none (.one (.loop 2 ⟨[(0,.slc 0 0),(7,.slc 1 0),(8,.int .i64),(9,.int .i64)],[.row false 0 5 (.int .u8),.row false 0 3 (.int .i64)]⟩ [1,2] .none))) .none))
  (by kernel_rfl) rfl (by kernel_rfl) (by kernel_rfl) (by kernel_rfl) rfl ⟨rfl,by unfold TOk;kernel_rfl,gOk_of rfl rfl (zI.2 ⟨en_wire_Num _N,(zF _)⟩),iOk_of rfl rfl (zF _),rfl⟩ (fun _x=>by kernel_rfl)
theorem en_wire_nums_int_h2(_N:Nat):EntOk Try.prog [] (mkHe 66 Sg_wire_nums_int_h2 (D_wire_nums_int_h2 _N)):=entH ⟨Try.f66,bodyOf Try.f66,by kernel_rfl,by kernel_rfl,rfl⟩ (sp_wire_nums_int_h2 _N)
abbrev Sg_wire_nums_int_h3:Sig:=⟨[.form (.slc 0 0),.dat false SG],[.row false 0 5 (.int .u8)],
 [.form (.slc 0 1)],[.row false 1 5 (.int .u8)],[]⟩
abbrev Rt_wire_nums_int_h3:Type:=List Int
def C_wire_nums_int_h3(_N:Nat):Ctx:={ T:=[(3,⟨.int .i64,1,8,some (.int .i64),[.int .i64 (0:Int)],false,[]⟩),(5,⟨.int .u8,1,1,some (.int .u8),[.int .u8 (0:Int)],false,[]⟩),(48,⟨.slice 3,1,24,some SG,[.nil],false,[]⟩),(61,⟨.slice 5,1,24,some SC,[.nil],false,[]⟩)],G:=findE [mkF 81 Ks_wire_Num 5 (.int .u8) (D_wire_Num _N)],I:=findI [],N:=_N,n:=19,fx:=[0],fl:=1,gs:=[] }
def wire_nums_int_h3_1(_N:Nat)(_v7:List Int):Option Rt_wire_nums_int_h3:=
 (some _v7)
def wire_nums_int_h3_2(_N:Nat)(_k8:(List Int)->Option Rt_wire_nums_int_h3)(_v1:List Int)(_v2:Int)(_v3:Int)(_v4:List Int)(_kn9:(List Int×Int)×Ym->Option Rt_wire_nums_int_h3):Option Rt_wire_nums_int_h3:=
 (bif (decide (_v3<_v2)) then (bif (decide (0<=_v3)&&decide (_v3<(_v1.length:Int))) then ((D_wire_Num _N ((nth (0:Int) _v1 (_v3).toNat),())).bind fun _y10=>(bif (decide ((_v4.length+_y10.length)*1<=140737488355328)&&Nat.ble 1 1) then (_kn9 ((_v1,_v2),((IntKind.i64.wrap (_v3+(1:Int))),(_v4++_y10)))) else none)) else none) else (_k8 _v4))
def wire_nums_int_h3_3(_N:Nat)(_x1:List Int)(_x2:List Int):Option Rt_wire_nums_int_h3:=
 (joinD (fun (_s:List Int)=>wire_nums_int_h3_1 _N _s) fun _k8=>(loopE (fun (_c:List Int×Int) (_s:Int×List Int) _kn=>wire_nums_int_h3_2 _N _k8 _c.1 _c.2 _s.1 _s.2 _kn) _N (_x1,(_x1.length:Int)) ((0:Int),_x2)))
def D_wire_nums_int_h3(_N:Nat)(_x:List Int×List Int):Option Rt_wire_nums_int_h3:=wire_nums_int_h3_3 _N _x.1 _x.2
theorem sp_wire_nums_int_h3(_N:Nat):SpecH Try.prog [] 66 Sg_wire_nums_int_h3 (D_wire_nums_int_h3 _N):=mkSpH (fn:=Try.f66) (c:=bodyOf Try.f66) (C:=(C_wire_nums_int_h3 _N))
  (a:=.two .none (.join 1 ⟨[(0,.slc 0 0)],[.row false 0 5 (.int .u8)]⟩ (.two .none (.one (.loop 1 ⟨[(0,.slc 0 0),(7,.sl (.int .i64)),(8,.int .i64),(9,.int .i64)],[.row false 0 5 (.int .u8)]⟩ [2,3] .none))) .none))
  (by kernel_rfl) rfl (by kernel_rfl) (by kernel_rfl) (by kernel_rfl) rfl ⟨rfl,by unfold TOk;kernel_rfl,gOk_of rfl rfl (zI.2 ⟨en_wire_Num _N,(zF _)⟩),iOk_of rfl rfl (zF _),rfl⟩ (fun _x=>by kernel_rfl)
theorem en_wire_nums_int_h3(_N:Nat):EntOk Try.prog [] (mkHe 66 Sg_wire_nums_int_h3 (D_wire_nums_int_h3 _N)):=entH ⟨Try.f66,bodyOf Try.f66,by kernel_rfl,by kernel_rfl,rfl⟩ (sp_wire_nums_int_h3 _N)
abbrev Sg_wire_nums_int64_h:Sig:=⟨[.form (.slc 0 0),.form (.slc 1 0)],[.row false 0 5 (.int .u8),.row false 0 2 (.int .i64)],
 [.form (.slc 0 1)],[.row false 1 5 (.int .u8),.row false 0 2 (.int .i64)],[]⟩
abbrev Rt_wire_nums_int64_h:Type:=List Int×List Int
def C_wire_nums_int64_h(_N:Nat):Ctx:={ T:=[(2,⟨.int .i64,1,8,some (.int .i64),[.int .i64 (0:Int)],false,[]⟩),(5,⟨.int .u8,1,1,some (.int .u8),[.int .u8 (0:Int)],false,[]⟩),(24,⟨.slice 2,1,24,some SG,[.nil],false,[]⟩),(61,⟨.slice 5,1,24,some SC,[.nil],false,[]⟩)],G:=findE [mkF 81 Ks_wire_Num 5 (.int .u8) (D_wire_Num _N)],I:=findI [],N:=_N,n:=19,fx:=[0],fl:=2,gs:=[] }
def wire_nums_int64_h_1(_N:Nat)(_v7:List Int)(_v8:List Int):Option Rt_wire_nums_int64_h:=
 (some (_v7,_v8))
def wire_nums_int64_h_2(_N:Nat)(_k9:Yo->Option Rt_wire_nums_int64_h)(_v1:Int)(_v4:List Int)(_v2:Int)(_v3:List Int)(_kn10:Ym×Ym->Option Rt_wire_nums_int64_h):Option Rt_wire_nums_int64_h:=
 (bif (decide (_v2<_v1)) then (bif (decide (0<=_v2)&&decide (_v2<(_v4.length:Int))) then ((D_wire_Num _N ((nth (0:Int) _v4 ((_v2).toNat)),())).bind fun _y11=>(bif (decide ((_v3.length+_y11.length)*1<=140737488355328)&&Nat.ble 1 1) then (_kn10 ((_v1,_v4),((IntKind.i64.wrap (_v2+(1:Int))),(_v3++_y11)))) else none)) else none) else (_k9 (_v3,_v4)))
def wire_nums_int64_h_3(_N:Nat)(_x1:List Int)(_x2:List Int):Option Rt_wire_nums_int64_h:=
 (joinD (fun (_s:List Int×List Int)=>wire_nums_int64_h_1 _N _s.1 _s.2) fun _k9=>(loopE (fun (_c:Int×List Int) (_s:Int×List Int) _kn=>wire_nums_int64_h_2 _N _k9 _c.1 _c.2 _s.1 _s.2 _kn) _N ((_x2.length:Int),_x2) ((0:Int),_x1)))
def D_wire_nums_int64_h(_N:Nat)(_x:List Int×List Int):Option Rt_wire_nums_int64_h:=wire_nums_int64_h_3 _N _x.1 _x.2
theorem sp_wire_nums_int64_h(_N:Nat):SpecH Try.prog [] 67 Sg_wire_nums_int64_h (D_wire_nums_int64_h _N):=mkSpH (fn:=Try.f67) (c:=bodyOf Try.f67) (C:=(C_wire_nums_int64_h _N))
  (a:=.two .none (.join 2 ⟨[(0,.slc 0 0)],[.row false 0 5 (.int .u8),.row false 0 2 (.int .i64)]⟩ (.two .none (.one (.loop 2 ⟨[(0,.slc 0 0),(7,.slc 1 0),(8,.int .i64),(9,.int .i64)],[.row false 0 5 (.int .u8),.row false 0 2 (.int .i64)]⟩ [1,2] .none))) .none))
  (by kernel_rfl) rfl (by kernel_rfl) (by kernel_rfl) (by kernel_rfl) rfl ⟨rfl,by unfold TOk;kernel_rfl,gOk_of rfl rfl (zI.2 ⟨en_wire_Num _N,(zF _)⟩),iOk_of rfl rfl (zF _),rfl⟩ (fun _x=>by kernel_rfl)
theorem en_wire_nums_int64_h(_N:Nat):EntOk Try.prog [] (mkHe 67 Sg_wire_nums_int64_h (D_wire_nums_int64_h _N)):=entH ⟨Try.f67,bodyOf Try.f67,by kernel_rfl,by kernel_rfl,rfl⟩ (sp_wire_nums_int64_h _N)
abbrev Ks_wire_bytesOf:List Kd:=[.dat (.sl SB)]
abbrev Rt_wire_bytesOf:Type:=List Int
def C_wire_bytesOf(_N:Nat):Ctx:={ T:=[(2,⟨.int .i64,1,8,some (.int .i64),[.int .i64 (0:Int)],false,[]⟩),(3,⟨.int .i64,1,8,some (.int .i64),[.int .i64 (0:Int)],false,[]⟩),(5,⟨.int .u8,1,1,some (.int .u8),[.int .u8 (0:Int)],false,[]⟩),(24,⟨.slice 2,1,24,some SG,[.nil],false,[]⟩),(36,⟨.slice 41,1,24,some (.sl SE),[.nil],false,[]⟩),(41,⟨.struct [(0,2),(1,2),(2,2)],3,24,some SE,[.int .i64 (0:Int),.int .i64 (0:Int),.int .i64 (0:Int)],true,[]⟩),(48,⟨.slice 3,1,24,some SG,[.nil],false,[]⟩),(53,⟨.slice 59,1,24,some (.sl SB),[.nil],false,[]⟩),(59,⟨.struct [(0,48),(1,36)],2,48,some SB,[.nil,.nil],false,[]⟩),(61,⟨.slice 5,1,24,some SC,[.nil],false,[]⟩)],G:=findE [mkHe 66 Sg_wire_nums_int_h (D_wire_nums_int_h _N),mkP 42 Ks_wire_Sum Rk_wire_Sum (D_wire_Sum _N),mkHe 66 Sg_wire_nums_int_h2 (D_wire_nums_int_h2 _N),mkHe 66 Sg_wire_nums_int_h3 (D_wire_nums_int_h3 _N),mkHe 67 Sg_wire_nums_int64_h (D_wire_nums_int64_h _N)],I:=findI [],N:=_N,n:=62,fx:=[1],fl:=0,gs:=[] }
def wire_bytesOf_1(_N:Nat)(_v31:List Int):Option Rt_wire_bytesOf:=
 ((D_wire_Sum _N (_v31,())).bind fun _y34=>(bif (decide ((8:Int)<0)) then none else (bif (decide ((_v31.length+([(IntKind.u8.wrap _y34.1),(IntKind.u8.wrap (ishr .i64 _y34.1 (8:Int)))]).length)*1<=140737488355328)&&Nat.ble 1 1) then (some (_v31 ++ [(IntKind.u8.wrap _y34.1),(IntKind.u8.wrap (ishr .i64 _y34.1 (8:Int)))])) else none)))
def wire_bytesOf_2(_N:Nat)(_kn36:((List Yl)×Int)×Ym->Option Rt_wire_bytesOf)(_v20:List Yl)(_v21:Int)(_v22:Int)(_v23:List Int):Option Rt_wire_bytesOf:=
 (_kn36 ((_v20,_v21),((IntKind.i64.wrap (_v22+(1:Int))),_v23)))
def wire_bytesOf_3(_N:Nat)(_k37:((List Yl)×Int×Int×List Int)->Option Rt_wire_bytesOf)(_v11:List Yl)(_v12:Int)(_v13:Int)(_v14:List Yn)(_v15:Int)(_v16:Int)(_v17:List Int)(_kn43:((List Yl)×Int×Int×(List Yn)×Int)×Ym->Option Rt_wire_bytesOf):Option Rt_wire_bytesOf:=
 (bif (decide (_v16<_v15)) then (bif (decide (0<=_v16)&&decide (_v16<(_v14.length:Int))) then ((D_wire_nums_int64_h _N (_v17,[(nth ((0:Int),((0:Int),(0:Int))) _v14 (_v16).toNat).1,((nth ((0:Int),((0:Int),(0:Int))) _v14 (_v16).toNat).2).1,((nth ((0:Int),((0:Int),(0:Int))) _v14 (_v16).toNat).2).2])).bind fun _y44=>(_kn43 ((_v11,_v12,_v13,_v14,_v15),((IntKind.i64.wrap (_v16+(1:Int))),_y44.1)))) else none) else (_k37 (_v11,_v12,_v13,_v17)))
def wire_bytesOf_4(_N:Nat)(_k35:(List Int)->Option Rt_wire_bytesOf)(_v2:List Yl)(_v3:Int)(_v4:Int)(_v5:List Int)(_kn36:((List Yl)×Int)×Ym->Option Rt_wire_bytesOf):Option Rt_wire_bytesOf:=
 (bif (decide (_v4<_v3)) then (joinD (fun (_s:(List Yl)×Int×Int×List Int)=>wire_bytesOf_2 _N _kn36 _s.1 _s.2.1 _s.2.2.1 _s.2.2.2) fun _k37=>(bif (decide (0<=_v4)&&decide (_v4<(_v2.length:Int))) then ((D_wire_nums_int_h2 _N (_v5,[(((nth ([],[]) _v2 (_v4).toNat).1).length:Int)])).bind fun _y39=>((D_wire_nums_int_h3 _N ((nth ([],[]) _v2 (_v4).toNat).1,_y39.1)).bind fun _y41=>((D_wire_nums_int_h2 _N (_y41,[(((nth ([],[]) _v2 (_v4).toNat).2).length:Int)])).bind fun _y42=>(loopE (fun (_c:(List Yl)×Int×Int×(List Yn)×Int) (_s:Int×List Int) _kn=>wire_bytesOf_3 _N _k37 _c.1 _c.2.1 _c.2.2.1 _c.2.2.2.1 _c.2.2.2.2 _s.1 _s.2 _kn) _N (_v2,_v3,_v4,(nth ([],[]) _v2 (_v4).toNat).2,(((nth ([],[]) _v2 (_v4).toNat).2).length:Int)) ((0:Int),_y42.1))))) else none)) else (_k35 _v5))
def wire_bytesOf_5(_N:Nat)(_x1:List Yl):Option Rt_wire_bytesOf:=
 ((D_wire_nums_int_h _N ([(_x1.length:Int)])).bind fun _y33=>(joinD (fun (_s:List Int)=>wire_bytesOf_1 _N _s) fun _k35=>(loopE (fun (_c:(List Yl)×Int) (_s:Int×List Int) _kn=>wire_bytesOf_4 _N _k35 _c.1 _c.2 _s.1 _s.2 _kn) _N (_x1,(_x1.length:Int)) ((0:Int),_y33.2))))
def D_wire_bytesOf(_N:Nat)(_x:Dens Ks_wire_bytesOf):Option Rt_wire_bytesOf:=wire_bytesOf_5 _N _x.1
theorem sp_wire_bytesOf(_N:Nat):SpecF Try.prog [] 41 Ks_wire_bytesOf 5 (.int .u8) (D_wire_bytesOf _N):=mkSpF (fn:=Try.f41) (c:=bodyOf Try.f41) (C:=C_wire_bytesOf _N)
  (a:=.two .none (.two .none (.join 2 ⟨[(3,.slc 1 0)],[.none,.row false 0 5 (.int .u8)]⟩ (.two .none (.one (.loop 2 ⟨[(3,.slc 1 0),(13,.sl SB),(14,.int .i64),(15,.int .i64)],[.none,.row false 0 5 (.int .u8)]⟩ [2,3] (.two .none (.two .none (.join 5 ⟨[(3,.slc 1 0),(13,.sl SB),(14,.int .i64),(15,.int .i64)],[.none,.row false 0 5 (.int .u8),.none,.none,.none]⟩ (.one (.two .none (.two (.draw 1 [.pure,.pure,.rd [2],.pure,.new 3,.wr [1,3],.pure,.rd [2],.wr [1],.pure]) (.two .none (.two .none (.one (.loop 5 ⟨[(3,.slc 1 0),(13,.sl SB),(14,.int .i64),(15,.int .i64),(35,.sl SE),(36,.int .i64),(37,.int .i64)],[.none,.row false 0 5 (.int .u8),.none,.none,.none]⟩ [5,6] .none))))))) .none)))))) .none)))
  (by kernel_rfl) rfl (by kernel_rfl) (by kernel_rfl) ⟨rfl,by unfold TOk;kernel_rfl,gOk_of rfl rfl (zI.2 ⟨en_wire_nums_int_h _N,(zI.2 ⟨en_wire_Sum _N,(zI.2 ⟨en_wire_nums_int_h2 _N,(zI.2 ⟨en_wire_nums_int_h3 _N,(zI.2 ⟨en_wire_nums_int64_h _N,(zF _)⟩)⟩)⟩)⟩)⟩),iOk_of rfl rfl (zF _),rfl⟩ (fun _x=>by kernel_rfl)
theorem en_wire_bytesOf(_N:Nat):EntOk Try.prog [] (mkF 41 Ks_wire_bytesOf 5 (.int .u8) (D_wire_bytesOf _N)):=entF ⟨Try.f41,bodyOf Try.f41,by kernel_rfl,by kernel_rfl,rfl⟩ (by kernel_rfl) (zD (by kernel_rfl)) (sp_wire_bytesOf _N)
abbrev Ks_wire_Put:List Kd:=[.dat (.sl SB)]
abbrev Rk_wire_Put:List Kd:=[.dat SC,.dat (.int .i64)]
abbrev Rt_wire_Put:Type:=Dens Rk_wire_Put
def C_wire_Put(_N:Nat):Ctx:={ T:=[],G:=findE [mkQ 19 Ks_diffs_Tidy Rk_diffs_Tidy (D_diffs_Tidy _N),mkF 41 Ks_wire_bytesOf 5 (.int .u8) (D_wire_bytesOf _N)],I:=findI [],N:=_N,n:=15,fx:=[],fl:=0,gs:=[] }
def wire_Put_1(_N:Nat)(_x1:List Yl):Option Rt_wire_Put:=
 ((D_diffs_Tidy _N (_x1,())).bind fun _y3=>(bif (_y3.2.1 != (0:Int)) then (some ([],_y3.2.1,())) else ((D_wire_bytesOf _N (_y3.1,())).bind fun _y4=>(some (_y4,(0:Int),())))))
def D_wire_Put(_N:Nat)(_x:Dens Ks_wire_Put):Option Rt_wire_Put:=wire_Put_1 _N _x.1
theorem sp_wire_Put(_N:Nat):SpecD Try.prog [] 22 Ks_wire_Put Rk_wire_Put (D_wire_Put _N):=mkSpD (fn:=Try.f22) (c:=bodyOf Try.f22) (C:=C_wire_Put _N)
  (a:=.none)
  (by kernel_rfl) rfl (by kernel_rfl) (by kernel_rfl) ⟨rfl,by unfold TOk;kernel_rfl,gOk_of rfl rfl (zI.2 ⟨qen_diffs_Tidy _N,(zI.2 ⟨en_wire_bytesOf _N,(zF _)⟩)⟩),iOk_of rfl rfl (zF _),rfl⟩ (fun _x=>by kernel_rfl)
theorem qen_wire_Put(_N:Nat):EntOk Try.prog [] (mkQ 22 Ks_wire_Put Rk_wire_Put (D_wire_Put _N)):=entQ ⟨Try.f22,bodyOf Try.f22,by kernel_rfl,by kernel_rfl,rfl⟩ (sp_wire_Put _N)
abbrev Ks_wire_Get:List Kd:=[.dat SC]
abbrev Rk_wire_Get:List Kd:=[.dat (.sl SB),.dat (.int .i64)]
abbrev Rt_wire_Get:Type:=Dens Rk_wire_Get
def C_wire_Get(_N:Nat):Ctx:={ T:=[(3,⟨.int .i64,1,8,some (.int .i64),[.int .i64 (0:Int)],false,[]⟩),(5,⟨.int .u8,1,1,some (.int .u8),[.int .u8 (0:Int)],false,[]⟩),(61,⟨.slice 5,1,24,some SC,[.nil],false,[]⟩),(96,⟨.struct [(0,61)],1,24,some SC,[.nil],false,[]⟩)],G:=findE [mkP 42 Ks_wire_Sum Rk_wire_Sum (D_wire_Sum _N),mkHe 43 Sg_hh (D_hh _N),mkQ 19 Ks_diffs_Tidy Rk_diffs_Tidy (D_diffs_Tidy _N),mkF 41 Ks_wire_bytesOf 5 (.int .u8) (D_wire_bytesOf _N),mkP 44 Ks_eqB Rk_eqB (D_eqB _N)],I:=findI [],N:=_N,n:=64,fx:=[],fl:=0,gs:=[] }
def wire_Get_1(_N:Nat)(_x1:List Int):Option Rt_wire_Get:=
 (bif (decide ((_x1.length:Int)>(8192:Int))) then (some ([],(1:Int),())) else (bif (decide ((IntKind.i64.wrap ((_x1.length:Int) - (2:Int)))<(0:Int))) then (some ([],(16:Int),())) else (bif (decide (0<=(0:Int))&&(decide ((0:Int)<=(IntKind.i64.wrap ((_x1.length:Int) - (2:Int))))&&decide ((IntKind.i64.wrap ((_x1.length:Int) - (2:Int)))<=(_x1.length:Int)))) then ((D_wire_Sum _N (((_x1.take (IntKind.i64.wrap ((_x1.length:Int) - (2:Int))).toNat).drop (0:Int).toNat),())).bind fun _y6=>(bif (decide (0<=(IntKind.i64.wrap ((_x1.length:Int) - (2:Int))))&&decide ((IntKind.i64.wrap ((_x1.length:Int) - (2:Int)))<(_x1.length:Int))) then (bif (decide (0<=(IntKind.i64.wrap ((IntKind.i64.wrap ((_x1.length:Int) - (2:Int)))+(1:Int))))&&decide ((IntKind.i64.wrap ((IntKind.i64.wrap ((_x1.length:Int) - (2:Int)))+(1:Int)))<(_x1.length:Int))) then (bif (decide ((8:Int)<0)) then none else (bif (_y6.1 != (ior .i64 (IntKind.i64.wrap (nth (0:Int) _x1 (IntKind.i64.wrap ((_x1.length:Int) - (2:Int))).toNat)) (ishl .i64 (IntKind.i64.wrap (nth (0:Int) _x1 (IntKind.i64.wrap ((IntKind.i64.wrap ((_x1.length:Int) - (2:Int)))+(1:Int))).toNat)) (8:Int)))) then (some ([],(16:Int),())) else (bif (decide (0<=(0:Int))&&(decide ((0:Int)<=(IntKind.i64.wrap ((_x1.length:Int) - (2:Int))))&&decide ((IntKind.i64.wrap ((_x1.length:Int) - (2:Int)))<=(_x1.length:Int)))) then ((D_hh _N ((_x1.take (IntKind.i64.wrap ((_x1.length:Int) - (2:Int))).toNat).drop (0:Int).toNat)).bind fun _y7=>(bif (!_y7.2) then (some ([],(3:Int),())) else ((D_diffs_Tidy _N (_y7.1,())).bind fun _y8=>(bif (_y8.2.1 != (0:Int)) then (some ([],(3:Int),())) else ((D_wire_bytesOf _N (_y8.1,())).bind fun _y9=>((D_eqB _N (_y9,_x1,())).bind fun _y10=>(bif (!_y10.1) then (some ([],(3:Int),())) else (some (_y8.1,(0:Int),()))))))))) else none))) else none) else none)) else none)))
def D_wire_Get(_N:Nat)(_x:Dens Ks_wire_Get):Option Rt_wire_Get:=wire_Get_1 _N _x.1
theorem sp_wire_Get(_N:Nat):SpecD Try.prog [] 23 Ks_wire_Get Rk_wire_Get (D_wire_Get _N):=mkSpD (fn:=Try.f23) (c:=bodyOf Try.f23) (C:=C_wire_Get _N)
  (a:=.two .none (.two .none (.two .none (.two (.two (.draw 0 [.pure,.pure,.pure,.pure,.pure,.pure,.pure,.pure,.pure,.pure,.pure,.pure,.pure,.pure,.pure,.pure,.pure,.pure,.pure,.pure,.pure,.pure]) .none) .none))))
  (by kernel_rfl) rfl (by kernel_rfl) (by kernel_rfl) ⟨rfl,by unfold TOk;kernel_rfl,gOk_of rfl rfl (zI.2 ⟨en_wire_Sum _N,(zI.2 ⟨en_hh _N,(zI.2 ⟨qen_diffs_Tidy _N,(zI.2 ⟨en_wire_bytesOf _N,(zI.2 ⟨en_eqB _N,(zF _)⟩)⟩)⟩)⟩)⟩),iOk_of rfl rfl (zF _),rfl⟩ (fun _x=>by kernel_rfl)
theorem qen_wire_Get(_N:Nat):EntOk Try.prog [] (mkQ 23 Ks_wire_Get Rk_wire_Get (D_wire_Get _N)):=entQ ⟨Try.f23,bodyOf Try.f23,by kernel_rfl,by kernel_rfl,rfl⟩ (sp_wire_Get _N)
end Go.Proofs.Ytcjecibocjbdmaa
end
