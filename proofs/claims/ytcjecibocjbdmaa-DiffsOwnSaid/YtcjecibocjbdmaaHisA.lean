import Derived.Test.YtcjecibocjbdmaaDifS
noncomputable section
namespace Go.Proofs.Ytcjecibocjbdmaa
open Go.Abs
abbrev Sv:Sh:=.pair (.int .i64) (.int .i64)
abbrev Su:Sh:=.sl (.int .i64)
abbrev Sr:Sh:=.pair (.int .i64) (.sl (.pair (.int .i64) (.pair (.pair (.int .i64) (.int .i64)) (.int .i64))))
abbrev Sm:Sh:=.pair (.int .i64) (.pair (.int .i64) (.int .i64))
abbrev Yi:Type:=Int×Int×Int
abbrev Yh:Type:=Int×(Int×Int)×Int
abbrev Yg:Type:=List Int×List (Int×Int×Int)
abbrev Yf:Type:=Int×(Int×Int×Int×Int×Int)×Int×List (Int×(Int×Int)×Int)
abbrev Ks_diffs_KeyOf:List Kd:=[.dat Su]
abbrev Rk_diffs_KeyOf:List Kd:=[.dat (.pair (.int .i64) (.pair (.int .i64) Sm))]
abbrev Rt_diffs_KeyOf:Type:=Dens Rk_diffs_KeyOf
def C_diffs_KeyOf(_N:Nat):Ctx:={ T:=[(3,⟨.int .i64,1,8,some (.int .i64),[.int .i64 (0:Int)],false,[]⟩),(48,⟨.slice 3,1,24,some Su,[.nil],false,[]⟩),(120,⟨.array 4 3,4,32,some (.pair (.int .i64) Sm),[.int .i64 (0:Int),.int .i64 (0:Int),.int .i64 (0:Int),.int .i64 (0:Int)],false,[]⟩),(122,⟨.struct [(0,3),(1,120)],5,40,some (.pair (.int .i64) (.pair (.int .i64) Sm)),[.int .i64 (0:Int),.int .i64 (0:Int),.int .i64 (0:Int),.int .i64 (0:Int),.int .i64 (0:Int)],true,[]⟩)],G:=findE [],I:=findI [],N:=_N,n:=12,fx:=[],fl:=0,gs:=[] }
def diffs_KeyOf_1(_N:Nat)(_x1:List Int):Option Rt_diffs_KeyOf:=
 (some (((_x1.length:Int),((nth (0:Int) (cpy ([(0:Int),(0:Int),(0:Int),(0:Int)]:List Int) _x1) 0),((nth (0:Int) (cpy ([(0:Int),(0:Int),(0:Int),(0:Int)]:List Int) _x1) 1),((nth (0:Int) (cpy ([(0:Int),(0:Int),(0:Int),(0:Int)]:List Int) _x1) 2),(nth (0:Int) (cpy ([(0:Int),(0:Int),(0:Int),(0:Int)]:List Int) _x1) 3))))),()))
def D_diffs_KeyOf(_N:Nat)(_x:Dens Ks_diffs_KeyOf):Option Rt_diffs_KeyOf:=diffs_KeyOf_1 _N _x.1
theorem sp_diffs_KeyOf(_N:Nat):SpecD Try.prog [] 79 Ks_diffs_KeyOf Rk_diffs_KeyOf (D_diffs_KeyOf _N):=mkSpD (fn:=Try.f79) (c:=bodyOf Try.f79) (C:=C_diffs_KeyOf _N)
  (a:=.none)
  (by kernel_rfl) rfl (by kernel_rfl) (by kernel_rfl) ⟨rfl,by unfold TOk;kernel_rfl,gOk_of rfl rfl (zH _),iOk_of rfl rfl (zH _),rfl⟩ (fun _x=>by kernel_rfl)
theorem en_diffs_KeyOf(_N:Nat):EntOk Try.prog [] (mkP 79 Ks_diffs_KeyOf Rk_diffs_KeyOf (D_diffs_KeyOf _N)):=entP ⟨Try.f79,bodyOf Try.f79,by kernel_rfl,by kernel_rfl,rfl⟩ (by kernel_rfl) (sp_diffs_KeyOf _N)
abbrev Ks_slices_Clone_Lint_int:List Kd:=[.dat Su]
abbrev Rt_slices_Clone_Lint_int:Type:=List Int
def C_slices_Clone_Lint_int(_N:Nat):Ctx:={ T:=[(3,⟨.int .i64,1,8,some (.int .i64),[.int .i64 (0:Int)],false,[]⟩),(48,⟨.slice 3,1,24,some Su,[.nil],false,[]⟩)],G:=findE [],I:=findI [],N:=_N,n:=8,fx:=[],fl:=0,gs:=[] }
def slices_Clone_Lint_int_1(_N:Nat)(_x1:List Int):Option Rt_slices_Clone_Lint_int:=
 (bif _x1.isEmpty then (dem2 (some []) (bif (decide ((([]:List Int).length+_x1.length)*8<=140737488355328)&&Nat.ble 1 8) then (some (([]:List Int)++_x1)) else none)) else (bif (decide ((([]:List Int).length+_x1.length)*8<=140737488355328)&&Nat.ble 1 8) then (some (([]:List Int)++_x1)) else none))
def D_slices_Clone_Lint_int(_N:Nat)(_x:Dens Ks_slices_Clone_Lint_int):Option Rt_slices_Clone_Lint_int:=slices_Clone_Lint_int_1 _N _x.1
theorem sp_slices_Clone_Lint_int(_N:Nat):SpecF Try.prog [] 60 Ks_slices_Clone_Lint_int 3 (.int .i64) (D_slices_Clone_Lint_int _N):=mkSpF (fn:=Try.f60) (c:=bodyOf Try.f60) (C:=C_slices_Clone_Lint_int _N)
  (a:=.none)
  (by kernel_rfl) rfl (by kernel_rfl) (by kernel_rfl) ⟨rfl,by unfold TOk;kernel_rfl,gOk_of rfl rfl (zH _),iOk_of rfl rfl (zH _),rfl⟩ (fun _x=>by kernel_rfl)
theorem en_slices_Clone_Lint_int(_N:Nat):EntOk Try.prog [] (mkF 60 Ks_slices_Clone_Lint_int 3 (.int .i64) (D_slices_Clone_Lint_int _N)):=entF ⟨Try.f60,bodyOf Try.f60,by kernel_rfl,by kernel_rfl,rfl⟩ (by kernel_rfl) (zD (by kernel_rfl)) (sp_slices_Clone_Lint_int _N)
abbrev Ks_diffs_Key_Time:List Kd:=[.dat (.pair (.int .i64) (.pair (.int .i64) Sm))]
abbrev Rt_diffs_Key_Time:Type:=List Int
def C_diffs_Key_Time(_N:Nat):Ctx:={ T:=[(3,⟨.int .i64,1,8,some (.int .i64),[.int .i64 (0:Int)],false,[]⟩),(120,⟨.array 4 3,4,32,some (.pair (.int .i64) Sm),[.int .i64 (0:Int),.int .i64 (0:Int),.int .i64 (0:Int),.int .i64 (0:Int)],false,[]⟩),(122,⟨.struct [(0,3),(1,120)],5,40,some (.pair (.int .i64) (.pair (.int .i64) Sm)),[.int .i64 (0:Int),.int .i64 (0:Int),.int .i64 (0:Int),.int .i64 (0:Int),.int .i64 (0:Int)],true,[]⟩)],G:=findE [mkF 60 Ks_slices_Clone_Lint_int 3 (.int .i64) (D_slices_Clone_Lint_int _N)],I:=findI [],N:=_N,n:=8,fx:=[],fl:=0,gs:=[] }
def diffs_Key_Time_1(_N:Nat)(_x1:Int×Int×Int×Int×Int):Option Rt_diffs_Key_Time:=
 (bif (decide (0<=_x1.1)&&decide (_x1.1<=(([_x1.2.1,_x1.2.2.1,_x1.2.2.2.1,_x1.2.2.2.2]:List Int).length:Int))) then ((D_slices_Clone_Lint_int _N ((([_x1.2.1,_x1.2.2.1,_x1.2.2.2.1,_x1.2.2.2.2]:List Int).take _x1.1.toNat),())).bind fun _y2=>(some _y2)) else none)
def D_diffs_Key_Time(_N:Nat)(_x:Dens Ks_diffs_Key_Time):Option Rt_diffs_Key_Time:=diffs_Key_Time_1 _N _x.1
theorem sp_diffs_Key_Time(_N:Nat):SpecF Try.prog [] 63 Ks_diffs_Key_Time 3 (.int .i64) (D_diffs_Key_Time _N):=mkSpF (fn:=Try.f63) (c:=bodyOf Try.f63) (C:=C_diffs_Key_Time _N)
  (a:=.none)
  (by kernel_rfl) rfl (by kernel_rfl) (by kernel_rfl) ⟨rfl,by unfold TOk;kernel_rfl,gOk_of rfl rfl (zY.2 ⟨en_slices_Clone_Lint_int _N,(zH _)⟩),iOk_of rfl rfl (zH _),rfl⟩ (fun _x=>by kernel_rfl)
theorem en_diffs_Key_Time(_N:Nat):EntOk Try.prog [] (mkF 63 Ks_diffs_Key_Time 3 (.int .i64) (D_diffs_Key_Time _N)):=entF ⟨Try.f63,bodyOf Try.f63,by kernel_rfl,by kernel_rfl,rfl⟩ (by kernel_rfl) (zD (by kernel_rfl)) (sp_diffs_Key_Time _N)
abbrev Ks_cmp_isNaN_int:List Kd:=[.dat (.int .i64)]
abbrev Rk_cmp_isNaN_int:List Kd:=[.dat (.bool)]
abbrev Rt_cmp_isNaN_int:Type:=Dens Rk_cmp_isNaN_int
def C_cmp_isNaN_int(_N:Nat):Ctx:={ T:=[],G:=findE [],I:=findI [],N:=_N,n:=6,fx:=[],fl:=0,gs:=[] }
def cmp_isNaN_int_1(_N:Nat)(_x1:Int):Option Rt_cmp_isNaN_int:=
 (some ((_x1 != _x1),()))
def D_cmp_isNaN_int(_N:Nat)(_x:Dens Ks_cmp_isNaN_int):Option Rt_cmp_isNaN_int:=cmp_isNaN_int_1 _N _x.1
theorem sp_cmp_isNaN_int(_N:Nat):SpecD Try.prog [] 101 Ks_cmp_isNaN_int Rk_cmp_isNaN_int (D_cmp_isNaN_int _N):=mkSpD (fn:=Try.f101) (c:=bodyOf Try.f101) (C:=C_cmp_isNaN_int _N)
  (a:=.none)
  (by kernel_rfl) rfl (by kernel_rfl) (by kernel_rfl) ⟨rfl,by unfold TOk;kernel_rfl,gOk_of rfl rfl (zH _),iOk_of rfl rfl (zH _),rfl⟩ (fun _x=>by kernel_rfl)
theorem en_cmp_isNaN_int(_N:Nat):EntOk Try.prog [] (mkP 101 Ks_cmp_isNaN_int Rk_cmp_isNaN_int (D_cmp_isNaN_int _N)):=entP ⟨Try.f101,bodyOf Try.f101,by kernel_rfl,by kernel_rfl,rfl⟩ (by kernel_rfl) (sp_cmp_isNaN_int _N)
abbrev Ks_cmp_Compare_int:List Kd:=[.dat (.int .i64),.dat (.int .i64)]
abbrev Rk_cmp_Compare_int:List Kd:=[.dat (.int .i64)]
abbrev Rt_cmp_Compare_int:Type:=Dens Rk_cmp_Compare_int
def C_cmp_Compare_int(_N:Nat):Ctx:={ T:=[],G:=findE [mkP 101 Ks_cmp_isNaN_int Rk_cmp_isNaN_int (D_cmp_isNaN_int _N)],I:=findI [],N:=_N,n:=20,fx:=[],fl:=0,gs:=[] }
def cmp_Compare_int_1(_N:Nat)(_x1:Int)(_x2:Int):Option Rt_cmp_Compare_int:=
 ((D_cmp_isNaN_int _N (_x1,())).bind fun _y3=>((D_cmp_isNaN_int _N (_x2,())).bind fun _y4=>(bif _y3.1 then (bif _y4.1 then (some ((0:Int),())) else (some ((-1:Int),()))) else (bif _y4.1 then (some ((1:Int),())) else (bif (decide (_x1<_x2)) then (some ((-1:Int),())) else (bif (decide (_x1>_x2)) then (some ((1:Int),())) else (some ((0:Int),()))))))))
def D_cmp_Compare_int(_N:Nat)(_x:Dens Ks_cmp_Compare_int):Option Rt_cmp_Compare_int:=cmp_Compare_int_1 _N _x.1 _x.2.1
theorem sp_cmp_Compare_int(_N:Nat):SpecD Try.prog [] 77 Ks_cmp_Compare_int Rk_cmp_Compare_int (D_cmp_Compare_int _N):=mkSpD (fn:=Try.f77) (c:=bodyOf Try.f77) (C:=C_cmp_Compare_int _N)
  (a:=.none)
  (by kernel_rfl) rfl (by kernel_rfl) (by kernel_rfl) ⟨rfl,by unfold TOk;kernel_rfl,gOk_of rfl rfl (zY.2 ⟨en_cmp_isNaN_int _N,(zH _)⟩),iOk_of rfl rfl (zH _),rfl⟩ (fun _x=>by kernel_rfl)
theorem en_cmp_Compare_int(_N:Nat):EntOk Try.prog [] (mkP 77 Ks_cmp_Compare_int Rk_cmp_Compare_int (D_cmp_Compare_int _N)):=entP ⟨Try.f77,bodyOf Try.f77,by kernel_rfl,by kernel_rfl,rfl⟩ (by kernel_rfl) (sp_cmp_Compare_int _N)
abbrev Ks_slices_Compare_Lint_int:List Kd:=[.dat Su,.dat Su]
abbrev Rk_slices_Compare_Lint_int:List Kd:=[.dat (.int .i64)]
abbrev Rt_slices_Compare_Lint_int:Type:=Dens Rk_slices_Compare_Lint_int
def C_slices_Compare_Lint_int(_N:Nat):Ctx:={ T:=[(3,⟨.int .i64,1,8,some (.int .i64),[.int .i64 (0:Int)],false,[]⟩),(48,⟨.slice 3,1,24,some Su,[.nil],false,[]⟩)],G:=findE [mkP 77 Ks_cmp_Compare_int Rk_cmp_Compare_int (D_cmp_Compare_int _N)],I:=findI [],N:=_N,n:=36,fx:=[],fl:=0,gs:=[] }
def slices_Compare_Lint_int_1(_N:Nat)(_v8:List Int)(_v9:List Int):Option Rt_slices_Compare_Lint_int:=
 (bif (decide ((_v8.length:Int)<(_v9.length:Int))) then (some ((-1:Int),())) else (some ((0:Int),())))
def slices_Compare_Lint_int_2(_N:Nat)(_k10:(List Int×List Int)->Option Rt_slices_Compare_Lint_int)(_v1:List Int)(_v2:List Int)(_v3:List Int)(_v4:Int)(_v5:Int)(_kn11:(List Int×List Int×List Int×Int)×Int->Option Rt_slices_Compare_Lint_int):Option Rt_slices_Compare_Lint_int:=
 (bif (decide (_v5<_v4)) then (bif (decide (0<=_v5)&&decide (_v5<(_v3.length:Int))) then (bif (decide (_v5>=(_v2.length:Int))) then (some ((1:Int),())) else (bif (decide (0<=_v5)&&decide (_v5<(_v2.length:Int))) then ((D_cmp_Compare_int _N ((nth (0:Int) _v3 (_v5).toNat),(nth (0:Int) _v2 (_v5).toNat),())).bind fun _y12=>(bif (_y12.1 != (0:Int)) then (some (_y12.1,())) else (_kn11 ((_v1,_v2,_v3,_v4),(IntKind.i64.wrap (_v5+(1:Int))))))) else none)) else none) else (_k10 (_v1,_v2)))
def slices_Compare_Lint_int_3(_N:Nat)(_x1:List Int)(_x2:List Int):Option Rt_slices_Compare_Lint_int:=
 (joinD (fun (_s:List Int×List Int)=>slices_Compare_Lint_int_1 _N _s.1 _s.2) fun _k10=>(loopE (fun (_c:List Int×List Int×List Int×Int) (_s:Int) _kn=>slices_Compare_Lint_int_2 _N _k10 _c.1 _c.2.1 _c.2.2.1 _c.2.2.2 _s _kn) _N (_x1,_x2,_x1,(_x1.length:Int)) (0:Int)))
def D_slices_Compare_Lint_int(_N:Nat)(_x:Dens Ks_slices_Compare_Lint_int):Option Rt_slices_Compare_Lint_int:=slices_Compare_Lint_int_3 _N _x.1 _x.2.1
theorem sp_slices_Compare_Lint_int(_N:Nat):SpecD Try.prog [] 56 Ks_slices_Compare_Lint_int Rk_slices_Compare_Lint_int (D_slices_Compare_Lint_int _N):=mkSpD (fn:=Try.f56) (c:=bodyOf Try.f56) (C:=C_slices_Compare_Lint_int _N)
  (a:=.two .none (.join 0 ⟨[(0,.sl (.int .i64)),(1,.sl (.int .i64))],[]⟩ (.two .none (.one (.loop 0 ⟨[(0,.sl (.int .i64)),(1,.sl (.int .i64)),(9,.sl (.int .i64)),(10,.int .i64),(11,.int .i64)],[]⟩ [4] .none))) .none))
  (by kernel_rfl) rfl (by kernel_rfl) (by kernel_rfl) ⟨rfl,by unfold TOk;kernel_rfl,gOk_of rfl rfl (zY.2 ⟨en_cmp_Compare_int _N,(zH _)⟩),iOk_of rfl rfl (zH _),rfl⟩ (fun _x=>by kernel_rfl)
theorem en_slices_Compare_Lint_int(_N:Nat):EntOk Try.prog [] (mkP 56 Ks_slices_Compare_Lint_int Rk_slices_Compare_Lint_int (D_slices_Compare_Lint_int _N)):=entP ⟨Try.f56,bodyOf Try.f56,by kernel_rfl,by kernel_rfl,rfl⟩ (by kernel_rfl) (sp_slices_Compare_Lint_int _N)
abbrev Ks_diffs_History_Tells_c1:List Kd:=[.dat (.pair Su (.sl Sm)),.dat (.pair Su (.sl Sm))]
abbrev Rk_diffs_History_Tells_c1:List Kd:=[.dat (.int .i64)]
abbrev Rt_diffs_History_Tells_c1:Type:=Dens Rk_diffs_History_Tells_c1
def C_diffs_History_Tells_c1(_N:Nat):Ctx:={ T:=[(48,⟨.slice 3,1,24,some Su,[.nil],false,[]⟩),(59,⟨.struct [(0,48),(1,36)],2,48,some (.pair Su (.sl Sm)),[.nil,.nil],false,[]⟩)],G:=findE [mkP 56 Ks_slices_Compare_Lint_int Rk_slices_Compare_Lint_int (D_slices_Compare_Lint_int _N)],I:=findI [],N:=_N,n:=10,fx:=[],fl:=0,gs:=[] }
def diffs_History_Tells_c1_1(_N:Nat)(_x1:List Int×List Yi)(_x2:List Int×List Yi):Option Rt_diffs_History_Tells_c1:=
 ((D_slices_Compare_Lint_int _N (_x1.1,_x2.1,())).bind fun _y2=>(some (_y2.1,())))
def D_diffs_History_Tells_c1(_N:Nat)(_x:Dens Ks_diffs_History_Tells_c1):Option Rt_diffs_History_Tells_c1:=diffs_History_Tells_c1_1 _N _x.1 _x.2.1
theorem sp_diffs_History_Tells_c1(_N:Nat):SpecD Try.prog [] 65 Ks_diffs_History_Tells_c1 Rk_diffs_History_Tells_c1 (D_diffs_History_Tells_c1 _N):=mkSpD (fn:=Try.f65) (c:=bodyOf Try.f65) (C:=C_diffs_History_Tells_c1 _N)
  (a:=.none)
  (by kernel_rfl) rfl (by kernel_rfl) (by kernel_rfl) ⟨rfl,by unfold TOk;kernel_rfl,gOk_of rfl rfl (zY.2 ⟨en_slices_Compare_Lint_int _N,(zH _)⟩),iOk_of rfl rfl (zH _),rfl⟩ (fun _x=>by kernel_rfl)
shelf_lay_g SlLaysF0.n6 Slsf 6 at Try 64 as lay_sortDiff
theorem hb_sortDiff:HasBody Try.prog 64:=⟨Try.f64,bodyOf Try.f64,by kernel_rfl,by kernel_rfl,rfl⟩
theorem hg_sortDiff:HasBody Try.prog 65:=⟨Try.f65,bodyOf Try.f65,by kernel_rfl,by kernel_rfl,rfl⟩
theorem en_sortDiff(_N:Nat):EntOk Try.prog [] (mkS 64 59 (.pair Su (.sl Sm)) 65 (fun p q=>(D_diffs_History_Tells_c1 _N (p,q,())).map (·.1))):=entSK lay_sortDiff Try.isAgg59 Try.sizeOf59 hb_sortDiff hg_sortDiff (by kernel_rfl) rfl (sp_diffs_History_Tells_c1 _N)
abbrev Sg_diffs_History_Pour_h:Sig:=⟨[.form (.ptr 0 1000000),.dat false Su,.dat false (.sl Sm),.dat false (.int .i64)],[.nst 0 ⟨false,122,78,.pair (.int .i64) (.pair (.int .i64) Sm),.map ⟨false,105,2,.pair (.int .i64) (.int .i64),.int .i64,false⟩⟩],
 [],[.nst 0 ⟨false,122,78,.pair (.int .i64) (.pair (.int .i64) Sm),.map ⟨false,105,2,.pair (.int .i64) (.int .i64),.int .i64,false⟩⟩],[]⟩
abbrev Rt_diffs_History_Pour_h:Type:=(Int×List Yf)
def C_diffs_History_Pour_h(_N:Nat):Ctx:={ T:=[(78,⟨.map 105 2 Sv (.int .i64),1,8,none,[.nl .map],false,[]⟩),(87,⟨.nmap 122 78 (.pair (.int .i64) (.pair (.int .i64) Sm)) (.map ⟨false,105,2,.pair (.int .i64) (.int .i64),.int .i64,false⟩),1,8,none,[.nl .map],false,[]⟩),(122,⟨.struct [(0,3),(1,120)],5,40,some (.pair (.int .i64) (.pair (.int .i64) Sm)),[.int .i64 (0:Int),.int .i64 (0:Int),.int .i64 (0:Int),.int .i64 (0:Int),.int .i64 (0:Int)],true,[]⟩)],G:=findE [mkP 79 Ks_diffs_KeyOf Rk_diffs_KeyOf (D_diffs_KeyOf _N),mkHe 51 Sg_bags_Bag_Pour_h (D_bags_Bag_Pour_h _N)],I:=findI [],N:=_N,n:=24,fx:=[],fl:=1,gs:=[] }
def diffs_History_Pour_h_1(_N:Nat)(_x1:List Int)(_x2:List Yi)(_x3:Int)(_x4:Int×List Yf):Option Rt_diffs_History_Pour_h:=
 ((D_diffs_KeyOf _N (_x1,())).bind fun _y4=>(bif (mpHas (.pair (.int .i64) (.pair (.int .i64) Sm)) Sr _x4 (_y4.1.1,(_y4.1.2.1,(_y4.1.2.2.1,(_y4.1.2.2.2.1,_y4.1.2.2.2.2))))) then (bif (mpHas (.pair (.int .i64) (.pair (.int .i64) Sm)) Sr _x4 (_y4.1.1,(_y4.1.2.1,(_y4.1.2.2.1,(_y4.1.2.2.2.1,_y4.1.2.2.2.2))))) then ((D_bags_Bag_Pour_h _N (_x2,_x3,(kidL (.pair (.int .i64) (.pair (.int .i64) Sm)) Sr _x4.2 (ixL (.pair (.int .i64) (.pair (.int .i64) Sm)) Sr (_y4.1.1,(_y4.1.2.1,(_y4.1.2.2.1,(_y4.1.2.2.2.1,_y4.1.2.2.2.2)))) _x4.2)))).bind fun _y5=>(some (_x4.1,putL (.pair (.int .i64) (.pair (.int .i64) Sm)) Sr _x4.2 (ixL (.pair (.int .i64) (.pair (.int .i64) Sm)) Sr (_y4.1.1,(_y4.1.2.1,(_y4.1.2.2.1,(_y4.1.2.2.2.1,_y4.1.2.2.2.2)))) _x4.2) _y5))) else none) else (bif (mpHas (.pair (.int .i64) (.pair (.int .i64) Sm)) Sr _x4 (_y4.1.1,(_y4.1.2.1,(_y4.1.2.2.1,(_y4.1.2.2.2.1,_y4.1.2.2.2.2))))) then none else (bif (mpHas (.pair (.int .i64) (.pair (.int .i64) Sm)) Sr (mpPut (.pair (.int .i64) (.pair (.int .i64) Sm)) Sr _x4 (_y4.1.1,(_y4.1.2.1,(_y4.1.2.2.1,(_y4.1.2.2.2.1,_y4.1.2.2.2.2)))) ((0:Int),([]:List Yh))) (_y4.1.1,(_y4.1.2.1,(_y4.1.2.2.1,(_y4.1.2.2.2.1,_y4.1.2.2.2.2))))) then ((D_bags_Bag_Pour_h _N (_x2,_x3,(kidL (.pair (.int .i64) (.pair (.int .i64) Sm)) Sr (mpPut (.pair (.int .i64) (.pair (.int .i64) Sm)) Sr _x4 (_y4.1.1,(_y4.1.2.1,(_y4.1.2.2.1,(_y4.1.2.2.2.1,_y4.1.2.2.2.2)))) ((0:Int),([]:List Yh))).2 (ixL (.pair (.int .i64) (.pair (.int .i64) Sm)) Sr (_y4.1.1,(_y4.1.2.1,(_y4.1.2.2.1,(_y4.1.2.2.2.1,_y4.1.2.2.2.2)))) (mpPut (.pair (.int .i64) (.pair (.int .i64) Sm)) Sr _x4 (_y4.1.1,(_y4.1.2.1,(_y4.1.2.2.1,(_y4.1.2.2.2.1,_y4.1.2.2.2.2)))) ((0:Int),([]:List Yh))).2)))).bind fun _y6=>(some ((mpPut (.pair (.int .i64) (.pair (.int .i64) Sm)) Sr _x4 (_y4.1.1,(_y4.1.2.1,(_y4.1.2.2.1,(_y4.1.2.2.2.1,_y4.1.2.2.2.2)))) ((0:Int),([]:List Yh))).1,putL (.pair (.int .i64) (.pair (.int .i64) Sm)) Sr (mpPut (.pair (.int .i64) (.pair (.int .i64) Sm)) Sr _x4 (_y4.1.1,(_y4.1.2.1,(_y4.1.2.2.1,(_y4.1.2.2.2.1,_y4.1.2.2.2.2)))) ((0:Int),([]:List Yh))).2 (ixL (.pair (.int .i64) (.pair (.int .i64) Sm)) Sr (_y4.1.1,(_y4.1.2.1,(_y4.1.2.2.1,(_y4.1.2.2.2.1,_y4.1.2.2.2.2)))) (mpPut (.pair (.int .i64) (.pair (.int .i64) Sm)) Sr _x4 (_y4.1.1,(_y4.1.2.1,(_y4.1.2.2.1,(_y4.1.2.2.2.1,_y4.1.2.2.2.2)))) ((0:Int),([]:List Yh))).2) _y6))) else none))))
def D_diffs_History_Pour_h(_N:Nat)(_x:List Int×(List Yi)×Int×(Int×List Yf)):Option Rt_diffs_History_Pour_h:=diffs_History_Pour_h_1 _N _x.1 _x.2.1 _x.2.2.1 _x.2.2.2
theorem sp_diffs_History_Pour_h(_N:Nat):SpecH Try.prog [] 62 Sg_diffs_History_Pour_h (D_diffs_History_Pour_h _N):=mkSpH (fn:=Try.f62) (c:=bodyOf Try.f62) (C:=(C_diffs_History_Pour_h _N))
  (a:=.none)
  (by kernel_rfl) rfl (by kernel_rfl) (by kernel_rfl) (by kernel_rfl) rfl ⟨rfl,by unfold TOk;kernel_rfl,gOk_of rfl rfl (zY.2 ⟨en_diffs_KeyOf _N,(zY.2 ⟨en_bags_Bag_Pour_h _N,(zH _)⟩)⟩),iOk_of rfl rfl (zH _),rfl⟩ (fun _x=>by kernel_rfl)
theorem en_diffs_History_Pour_h(_N:Nat):EntOk Try.prog [] (mkHe 62 Sg_diffs_History_Pour_h (D_diffs_History_Pour_h _N)):=entH ⟨Try.f62,bodyOf Try.f62,by kernel_rfl,by kernel_rfl,rfl⟩ (sp_diffs_History_Pour_h _N)
abbrev Sg_diffs_Of_h:Sig:=⟨[.dat false (.sl (.pair Su (.sl Sm)))],[],
 [.form (.ptr 0 1000000)],[.nst 0 ⟨false,122,78,.pair (.int .i64) (.pair (.int .i64) Sm),.map ⟨false,105,2,.pair (.int .i64) (.int .i64),.int .i64,false⟩⟩],[]⟩
abbrev Rt_diffs_Of_h:Type:=(Int×List Yf)
def C_diffs_Of_h(_N:Nat):Ctx:={ T:=[(36,⟨.slice 41,1,24,some (.sl Sm),[.nil],false,[]⟩),(48,⟨.slice 3,1,24,some Su,[.nil],false,[]⟩),(53,⟨.slice 59,1,24,some (.sl (.pair Su (.sl Sm))),[.nil],false,[]⟩),(59,⟨.struct [(0,48),(1,36)],2,48,some (.pair Su (.sl Sm)),[.nil,.nil],false,[]⟩),(87,⟨.nmap 122 78 (.pair (.int .i64) (.pair (.int .i64) Sm)) (.map ⟨false,105,2,.pair (.int .i64) (.int .i64),.int .i64,false⟩),1,8,none,[.nl .map],false,[]⟩)],G:=findE [mkHe 62 Sg_diffs_History_Pour_h (D_diffs_History_Pour_h _N)],I:=findI [],N:=_N,n:=21,fx:=[],fl:=0,gs:=[] }
def diffs_Of_h_1(_N:Nat)(_v7:Int×List Yf):Option Rt_diffs_Of_h:=
 (some _v7)
def diffs_Of_h_2(_N:Nat)(_k8:(Int×List Yf)->Option Rt_diffs_Of_h)(_v1:List Yg)(_v2:Int)(_v3:Int)(_v4:Int×List Yf)(_kn9:((List Yg)×Int)×(Int×(Int×List Yf))->Option Rt_diffs_Of_h):Option Rt_diffs_Of_h:=
 (bif (decide (_v3<_v2)) then (bif (decide (0<=_v3)&&decide (_v3<(_v1.length:Int))) then ((D_diffs_History_Pour_h _N ((nth ([],[]) _v1 (_v3).toNat).1,(nth ([],[]) _v1 (_v3).toNat).2,(1:Int),_v4)).bind fun _y10=>(_kn9 ((_v1,_v2),((IntKind.i64.wrap (_v3+(1:Int))),_y10)))) else none) else (_k8 _v4))
def diffs_Of_h_3(_N:Nat)(_x1:List Yg):Option Rt_diffs_Of_h:=
 (joinD (fun (_s:(Int×List Yf))=>diffs_Of_h_1 _N _s) fun _k8=>(loopE (fun (_c:(List Yg)×Int) (_s:Int×(Int×List Yf)) _kn=>diffs_Of_h_2 _N _k8 _c.1 _c.2 _s.1 _s.2 _kn) _N (_x1,(_x1.length:Int)) ((0:Int),((0:Int),([]:List Yf)))))
def D_diffs_Of_h(_N:Nat)(_x:(List Yg)):Option Rt_diffs_Of_h:=diffs_Of_h_3 _N _x
theorem sp_diffs_Of_h(_N:Nat):SpecH Try.prog [] 38 Sg_diffs_Of_h (D_diffs_Of_h _N):=mkSpH (fn:=Try.f38) (c:=bodyOf Try.f38) (C:=(C_diffs_Of_h _N))
  (a:=.two .none (.two .none (.join 1 ⟨[(3,.ptr 0 1000000)],[.nst 0 ⟨false,122,78,.pair (.int .i64) (.pair (.int .i64) Sm),.map ⟨false,105,2,.pair (.int .i64) (.int .i64),.int .i64,false⟩⟩]⟩ (.two .none (.one (.loop 1 ⟨[(3,.ptr 0 1000000),(7,.sl (.pair Su (.sl Sm))),(8,.int .i64),(9,.int .i64)],[.nst 0 ⟨false,122,78,.pair (.int .i64) (.pair (.int .i64) Sm),.map ⟨false,105,2,.pair (.int .i64) (.int .i64),.int .i64,false⟩⟩]⟩ [2,3] .none))) .none)))
  (by kernel_rfl) rfl (by kernel_rfl) (by kernel_rfl) (by kernel_rfl) rfl ⟨rfl,by unfold TOk;kernel_rfl,gOk_of rfl rfl (zY.2 ⟨en_diffs_History_Pour_h _N,(zH _)⟩),iOk_of rfl rfl (zH _),rfl⟩ (fun _x=>by kernel_rfl)
abbrev Sg_diffs_History_Tells_h:Sig:=⟨[.form (.ptr 0 1000000)],[.nst 0 ⟨false,122,78,.pair (.int .i64) (.pair (.int .i64) Sm),.map ⟨false,105,2,.pair (.int .i64) (.int .i64),.int .i64,false⟩⟩],
 [.dat false (.sl (.pair Su (.sl Sm))),.dat false (.int .i64)],[.gone],[]⟩
abbrev Rt_diffs_History_Tells_h:Type:=(List Yg)×Int
def C_diffs_History_Tells_h(_N:Nat):Ctx:={ T:=[(36,⟨.slice 41,1,24,some (.sl Sm),[.nil],false,[]⟩),(48,⟨.slice 3,1,24,some Su,[.nil],false,[]⟩),(53,⟨.slice 59,1,24,some (.sl (.pair Su (.sl Sm))),[.nil],false,[]⟩),(59,⟨.struct [(0,48),(1,36)],2,48,some (.pair Su (.sl Sm)),[.nil,.nil],false,[]⟩),(78,⟨.map 105 2 Sv (.int .i64),1,8,none,[.nl .map],false,[]⟩),(87,⟨.nmap 122 78 (.pair (.int .i64) (.pair (.int .i64) Sm)) (.map ⟨false,105,2,.pair (.int .i64) (.int .i64),.int .i64,false⟩),1,8,none,[.nl .map],false,[]⟩),(122,⟨.struct [(0,3),(1,120)],5,40,some (.pair (.int .i64) (.pair (.int .i64) Sm)),[.int .i64 (0:Int),.int .i64 (0:Int),.int .i64 (0:Int),.int .i64 (0:Int),.int .i64 (0:Int)],true,[]⟩)],G:=findE [mkS 64 59 (.pair Su (.sl Sm)) 65 (fun p q=>(D_diffs_History_Tells_c1 _N (p,q,())).map (·.1)),mkF 63 Ks_diffs_Key_Time 3 (.int .i64) (D_diffs_Key_Time _N),mkRo 31 ⟨false,105,2,.pair (.int .i64) (.int .i64),.int .i64,false⟩ (.sl Sm) (D_bags_Bag_Rows_h _N)],I:=findI [],N:=_N,n:=40,fx:=[1,2],fl:=1,gs:=[] }
def diffs_History_Tells_h_1(_N:Nat)(_v16:Int)(_v17:List Yg):Option Rt_diffs_History_Tells_h:=
 (bif (decide ((_v17.length:Int)>(64:Int))) then (some ([],(1:Int))) else (bif (decide (_v16>(128:Int))) then (some ([],(1:Int))) else ((sortR (fun p q=>(D_diffs_History_Tells_c1 _N (p,q,())).map (·.1)) _v17).bind fun _y19=>(some (_y19,(0:Int))))))
def diffs_History_Tells_h_2(_N:Nat)(_k20:(Int×(List Yg))->Option Rt_diffs_History_Tells_h)(_v1:Int)(_v2:Int×List Yf)(_v7:List Yg)(_kn21:Unit×(Int×(Int×List Yf)×(List Yg))->Option Rt_diffs_History_Tells_h):Option Rt_diffs_History_Tells_h:=
 (nextE (k:=.pair (.int .i64) (.pair (.int .i64) Sm)) (v:=.pair (.int .i64) (.sl (.pair (.int .i64) (.pair Sv (.int .i64))))) _v2 (_k20 (_v1,_v7)) (fun _y22=>fun _y23=>(bif (decide ((_y22.2.2.2.length:Int)>(0:Int))) then ((D_diffs_Key_Time _N ((_y22.2.1.1,(_y22.2.1.2.1,(_y22.2.1.2.2.1,(_y22.2.1.2.2.2.1,_y22.2.1.2.2.2.2)))),())).bind fun _y24=>((@roR ⟨false,105,2,.pair (.int .i64) (.int .i64),.int .i64,false⟩ (.sl Sm) (D_bags_Bag_Rows_h _N) _y22.2.2).bind fun _y25=>(bif (decide ((_v7.length+([(_y24,_y25)]).length)*48<=140737488355328)&&Nat.ble 1 48) then (_kn21 ((),((IntKind.i64.wrap (_v1+(_y22.2.2.2.length:Int))),((1:Int),_y22 :: _y23),(_v7 ++ [(_y24,_y25)])))) else none))) else (_kn21 ((),(_v1,((1:Int),_y22 :: _y23),_v7))))))
def diffs_History_Tells_h_3(_N:Nat)(_x1:Int×List Yf):Option Rt_diffs_History_Tells_h:=
 (joinD (fun (_s:Int×(List Yg))=>diffs_History_Tells_h_1 _N _s.1 _s.2) fun _k20=>(loopE (fun (_c:Unit) (_s:Int×(Int×List Yf)×(List Yg)) _kn=>diffs_History_Tells_h_2 _N _k20 _s.1 _s.2.1 _s.2.2 _kn) _N () ((0:Int),((0:Int),_x1.2),[])))
def D_diffs_History_Tells_h(_N:Nat)(_x:(Int×List Yf)):Option Rt_diffs_History_Tells_h:=diffs_History_Tells_h_3 _N _x
theorem sp_diffs_History_Tells_h(_N:Nat):SpecH Try.prog [] 39 Sg_diffs_History_Tells_h (D_diffs_History_Tells_h _N):=mkSpH (fn:=Try.f39) (c:=bodyOf Try.f39) (C:=(C_diffs_History_Tells_h _N))
  (a:=.two .none (.two .none (.two .none (.join 3 ⟨[(4,.slc 2 0),(5,.int .i64)],[.gone,.none,.row false 0 59 (.pair Su (.sl Sm))]⟩ (.two .none (.one (.obj 4 59 (.pair Su (.sl Sm)) (.loop 3 ⟨[(4,.slc 2 0),(5,.int .i64),(9,.ptr 1 1000000)],[.gone,.nst 0 ⟨true,122,78,.pair (.int .i64) (.pair (.int .i64) Sm),.map ⟨false,105,2,.pair (.int .i64) (.int .i64),.int .i64,false⟩⟩,.row false 0 59 (.pair Su (.sl Sm))]⟩ [0,1,2] (.two .nx .none))))) .none))))
  (by kernel_rfl) rfl (by kernel_rfl) (by kernel_rfl) (by kernel_rfl) rfl ⟨rfl,by unfold TOk;kernel_rfl,gOk_of rfl rfl (zY.2 ⟨en_sortDiff _N,(zY.2 ⟨en_diffs_Key_Time _N,(zY.2 ⟨en_bags_Rows _N,(zH _)⟩)⟩)⟩),iOk_of rfl rfl (zH _),rfl⟩ (fun _x=>by kernel_rfl)
abbrev Ks_diffs_Tidy:List Kd:=[.dat (.sl (.pair Su (.sl Sm)))]
abbrev Rk_diffs_Tidy:List Kd:=[.dat (.sl (.pair Su (.sl Sm))),.dat (.int .i64)]
abbrev Rt_diffs_Tidy:Type:=Dens Rk_diffs_Tidy
def diffs_Tidy_1(_N:Nat)(_x1:List Yg):Option Rt_diffs_Tidy:=
 ((D_diffs_Check _N (_x1,())).bind fun _y4=>(bif (_y4.1 != (0:Int)) then (some ([],_y4.1,())) else ((D_diffs_Of_h _N _x1).bind fun _y5=>((D_diffs_History_Tells_h _N _y5).bind fun _y6=>(some (_y6.1,_y6.2,()))))))
def D_diffs_Tidy(_N:Nat)(_x:Dens Ks_diffs_Tidy):Option Rt_diffs_Tidy:=diffs_Tidy_1 _N _x.1
abbrev Ks_keep_totals:List Kd:=[.dat (.sl (.pair Su (.sl Sm)))]
abbrev Rk_keep_totals:List Kd:=[.dat (.int .i64)]
abbrev Rt_keep_totals:Type:=Dens Rk_keep_totals
def C_keep_totals(_N:Nat):Ctx:={ T:=[(36,⟨.slice 41,1,24,some (.sl Sm),[.nil],false,[]⟩),(53,⟨.slice 59,1,24,some (.sl (.pair Su (.sl Sm))),[.nil],false,[]⟩),(59,⟨.struct [(0,48),(1,36)],2,48,some (.pair Su (.sl Sm)),[.nil,.nil],false,[]⟩)],G:=findE [mkP 40 Ks_keep_total Rk_keep_total (D_keep_total _N)],I:=findI [],N:=_N,n:=19,fx:=[],fl:=0,gs:=[] }
def keep_totals_1(_N:Nat)(_v7:Int):Option Rt_keep_totals:=
 (some (_v7,()))
def keep_totals_2(_N:Nat)(_k8:Int->Option Rt_keep_totals)(_v2:List Yg)(_v3:Int)(_v1:Int)(_v4:Int)(_kn9:((List Yg)×Int)×(Int×Int)->Option Rt_keep_totals):Option Rt_keep_totals:=
 (bif (decide (_v4<_v3)) then (bif (decide (0<=_v4)&&decide (_v4<(_v2.length:Int))) then ((D_keep_total _N ((nth ([],[]) _v2 (_v4).toNat).2,())).bind fun _y10=>(_kn9 ((_v2,_v3),((IntKind.i64.wrap (_v1+_y10.1)),(IntKind.i64.wrap (_v4+(1:Int))))))) else none) else (_k8 _v1))
def keep_totals_3(_N:Nat)(_x1:List Yg):Option Rt_keep_totals:=
 (joinD (fun (_s:Int)=>keep_totals_1 _N _s) fun _k8=>(loopE (fun (_c:(List Yg)×Int) (_s:Int×Int) _kn=>keep_totals_2 _N _k8 _c.1 _c.2 _s.1 _s.2 _kn) _N (_x1,(_x1.length:Int)) ((0:Int),(0:Int))))
def D_keep_totals(_N:Nat)(_x:Dens Ks_keep_totals):Option Rt_keep_totals:=keep_totals_3 _N _x.1
theorem sp_keep_totals(_N:Nat):SpecD Try.prog [] 20 Ks_keep_totals Rk_keep_totals (D_keep_totals _N):=mkSpD (fn:=Try.f20) (c:=bodyOf Try.f20) (C:=C_keep_totals _N)
  (a:=.two .none (.two .none (.join 0 ⟨[(3,.int .i64)],[]⟩ (.two .none (.one (.loop 0 ⟨[(3,.int .i64),(6,.sl (.pair Su (.sl Sm))),(7,.int .i64),(8,.int .i64)],[]⟩ [0,3] .none))) .none)))
  (by kernel_rfl) rfl (by kernel_rfl) (by kernel_rfl) ⟨rfl,by unfold TOk;kernel_rfl,gOk_of rfl rfl (zY.2 ⟨en_keep_total _N,(zH _)⟩),iOk_of rfl rfl (zH _),rfl⟩ (fun _x=>by kernel_rfl)
abbrev Ks_ref_TimesSame:List Kd:=[.dat Su,.dat Su]
abbrev Rk_ref_TimesSame:List Kd:=[.dat (.bool)]
abbrev Rt_ref_TimesSame:Type:=Dens Rk_ref_TimesSame
def C_ref_TimesSame(_N:Nat):Ctx:={ T:=[(3,⟨.int .i64,1,8,some (.int .i64),[.int .i64 (0:Int)],false,[]⟩),(48,⟨.slice 3,1,24,some Su,[.nil],false,[]⟩)],G:=findE [],I:=findI [],N:=_N,n:=26,fx:=[],fl:=0,gs:=[] }
def ref_TimesSame_1(_N:Nat):Option Rt_ref_TimesSame:=
 (some (true,()))
def ref_TimesSame_2(_N:Nat)(_k4:Unit->Option Rt_ref_TimesSame)(_v1:List Int)(_v2:List Int)(_v3:Int)(_kn5:(List Int×List Int)×Int->Option Rt_ref_TimesSame):Option Rt_ref_TimesSame:=
 (bif (decide (_v3<(_v1.length:Int))) then (bif (decide (0<=_v3)&&decide (_v3<(_v1.length:Int))) then (bif (decide (0<=_v3)&&decide (_v3<(_v2.length:Int))) then (bif ((nth (0:Int) _v1 (_v3).toNat) != (nth (0:Int) _v2 (_v3).toNat)) then (some (false,())) else (_kn5 ((_v1,_v2),(IntKind.i64.wrap (_v3+(1:Int)))))) else none) else none) else (_k4 ()))
def ref_TimesSame_3(_N:Nat)(_x1:List Int)(_x2:List Int):Option Rt_ref_TimesSame:=
 (bif ((_x1.length:Int) != (_x2.length:Int)) then (some (false,())) else (joinD (fun (_s:Unit)=>ref_TimesSame_1 _N) fun _k4=>(loopE (fun (_c:List Int×List Int) (_s:Int) _kn=>ref_TimesSame_2 _N _k4 _c.1 _c.2 _s _kn) _N (_x1,_x2) (0:Int))))
def D_ref_TimesSame(_N:Nat)(_x:Dens Ks_ref_TimesSame):Option Rt_ref_TimesSame:=ref_TimesSame_3 _N _x.1 _x.2.1
theorem sp_ref_TimesSame(_N:Nat):SpecD Try.prog [] 36 Ks_ref_TimesSame Rk_ref_TimesSame (D_ref_TimesSame _N):=mkSpD (fn:=Try.f36) (c:=bodyOf Try.f36) (C:=C_ref_TimesSame _N)
  (a:=.two .none (.two .none (.join 0 ⟨[],[]⟩ (.two .none (.one (.loop 0 ⟨[(0,.sl (.int .i64)),(1,.sl (.int .i64)),(5,.int .i64)],[]⟩ [2] (.two .none (.two (.one (.two (.draw 0 [.pure,.pure,.pure,.pure,.pure,.pure,.pure,.pure,.pure]) .none)) .none))))) .none)))
  (by kernel_rfl) rfl (by kernel_rfl) (by kernel_rfl) ⟨rfl,by unfold TOk;kernel_rfl,gOk_of rfl rfl (zH _),iOk_of rfl rfl (zH _),rfl⟩ (fun _x=>by kernel_rfl)
theorem en_ref_TimesSame(_N:Nat):EntOk Try.prog [] (mkP 36 Ks_ref_TimesSame Rk_ref_TimesSame (D_ref_TimesSame _N)):=entP ⟨Try.f36,bodyOf Try.f36,by kernel_rfl,by kernel_rfl,rfl⟩ (by kernel_rfl) (sp_ref_TimesSame _N)
abbrev Ks_ref_DiffsSame:List Kd:=[.dat (.sl (.pair Su (.sl Sm))),.dat (.sl (.pair Su (.sl Sm)))]
abbrev Rk_ref_DiffsSame:List Kd:=[.dat (.bool)]
abbrev Rt_ref_DiffsSame:Type:=Dens Rk_ref_DiffsSame
def C_ref_DiffsSame(_N:Nat):Ctx:={ T:=[(36,⟨.slice 41,1,24,some (.sl Sm),[.nil],false,[]⟩),(48,⟨.slice 3,1,24,some Su,[.nil],false,[]⟩),(53,⟨.slice 59,1,24,some (.sl (.pair Su (.sl Sm))),[.nil],false,[]⟩),(59,⟨.struct [(0,48),(1,36)],2,48,some (.pair Su (.sl Sm)),[.nil,.nil],false,[]⟩)],G:=findE [mkP 36 Ks_ref_TimesSame Rk_ref_TimesSame (D_ref_TimesSame _N),mkP 33 Ks_ref_BagsSame Rk_ref_BagsSame (D_ref_BagsSame _N)],I:=findI [],N:=_N,n:=43,fx:=[],fl:=0,gs:=[] }
def ref_DiffsSame_1(_N:Nat):Option Rt_ref_DiffsSame:=
 (some (true,()))
def ref_DiffsSame_2(_N:Nat)(_k8:Unit->Option Rt_ref_DiffsSame)(_v1:List Yg)(_v2:List Yg)(_v3:Int)(_kn9:((List Yg)×(List Yg))×Int->Option Rt_ref_DiffsSame):Option Rt_ref_DiffsSame:=
 (bif (decide (_v3<(_v1.length:Int))) then (bif (decide (0<=_v3)&&decide (_v3<(_v1.length:Int))) then (bif (decide (0<=_v3)&&decide (_v3<(_v2.length:Int))) then ((D_ref_TimesSame _N ((nth ([],[]) _v1 (_v3).toNat).1,(nth ([],[]) _v2 (_v3).toNat).1,())).bind fun _y10=>(bif (!_y10.1) then (some (false,())) else (bif (decide (0<=_v3)&&decide (_v3<(_v1.length:Int))) then (bif (decide (0<=_v3)&&decide (_v3<(_v2.length:Int))) then ((D_ref_BagsSame _N ((nth ([],[]) _v1 (_v3).toNat).2,(nth ([],[]) _v2 (_v3).toNat).2,())).bind fun _y11=>(bif (!_y11.1) then (some (false,())) else (_kn9 ((_v1,_v2),(IntKind.i64.wrap (_v3+(1:Int))))))) else none) else none))) else none) else none) else (_k8 ()))
def ref_DiffsSame_3(_N:Nat)(_x1:List Yg)(_x2:List Yg):Option Rt_ref_DiffsSame:=
 (bif ((_x1.length:Int) != (_x2.length:Int)) then (some (false,())) else (joinD (fun (_s:Unit)=>ref_DiffsSame_1 _N) fun _k8=>(loopE (fun (_c:(List Yg)×(List Yg)) (_s:Int) _kn=>ref_DiffsSame_2 _N _k8 _c.1 _c.2 _s _kn) _N (_x1,_x2) (0:Int))))
def D_ref_DiffsSame(_N:Nat)(_x:Dens Ks_ref_DiffsSame):Option Rt_ref_DiffsSame:=ref_DiffsSame_3 _N _x.1 _x.2.1
theorem sp_ref_DiffsSame(_N:Nat):SpecD Try.prog [] 21 Ks_ref_DiffsSame Rk_ref_DiffsSame (D_ref_DiffsSame _N):=mkSpD (fn:=Try.f21) (c:=bodyOf Try.f21) (C:=C_ref_DiffsSame _N)
  (a:=.two .none (.two .none (.join 0 ⟨[],[]⟩ (.two .none (.one (.loop 0 ⟨[(0,.sl (.pair Su (.sl Sm))),(1,.sl (.pair Su (.sl Sm))),(5,.int .i64)],[]⟩ [2] (.two .none (.two (.one (.two (.draw 0 (.pure :: .pure :: .pure :: .pure :: .pure :: .pure :: .pure :: .pure :: .pure :: .pure :: .pure :: .pure :: .pure :: .pure :: .pure :: .pure :: .pure :: .pure :: .pure :: .pure :: .pure :: .pure :: .pure :: .pure :: .pure :: .pure :: [])) .none)) .none))))) .none)))
  (by kernel_rfl) rfl (by kernel_rfl) (by kernel_rfl) ⟨rfl,by unfold TOk;kernel_rfl,gOk_of rfl rfl (zY.2 ⟨en_ref_TimesSame _N,(zY.2 ⟨en_ref_BagsSame _N,(zH _)⟩)⟩),iOk_of rfl rfl (zH _),rfl⟩ (fun _x=>by kernel_rfl)
end Go.Proofs.Ytcjecibocjbdmaa
end
