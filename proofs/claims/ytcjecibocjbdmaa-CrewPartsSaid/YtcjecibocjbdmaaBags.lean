import Derived.Test.YtcjecibocjbdmaaAbsSubF
import Derived.Test.YtcjecibocjbdmaaAbsSort
import Derived.Test.YtcjecibocjbdmaaAbsOrd
import Derived.Test.YtcjecibocjbdmaaAbsLat
import Derived.Test.YtcjecibocjbdmaaProg
import Derived.Shelf.SlGeneric
import Derived.Ground.SlsfProg
import Derived.KernelRfl
noncomputable section
namespace Go.Proofs.Ytcjecibocjbdmaa
open Go.Abs
abbrev Sj:Sh:=.pair (.int .i64) (.int .i64)
abbrev Si:Sh:=.pair (.int .i64) (.pair (.int .i64) (.int .i64))
abbrev Yc:Type:=Int×(Int×Int)×Int
abbrev Yb:Type:=Int×Int×Int
abbrev Ya:Type:=Int×List (Int×(Int×Int)×Int)
def bodyOf(f:Func):Code:=f.body.getD .skip
abbrev Ks_bags_Large_c1:List Kd:=[.dat (.sl Si)]
abbrev Rk_bags_Large_c1:List Kd:=[.dat (.bool)]
abbrev Rt_bags_Large_c1:Type:=Dens Rk_bags_Large_c1
def C_bags_Large_c1(_N:Nat):Ctx:={ T:=[(36,⟨.slice 41,1,24,some (.sl Si),[.nil],false,[]⟩)],G:=findE [],I:=findI [],N:=_N,n:=6,fx:=[],fl:=0,gs:=[] }
def bags_Large_c1_1(_N:Nat)(_x1:List Yb):Option Rt_bags_Large_c1:=
 (some ((decide ((_x1.length:Int)>(128:Int))),()))
def D_bags_Large_c1(_N:Nat)(_x:Dens Ks_bags_Large_c1):Option Rt_bags_Large_c1:=bags_Large_c1_1 _N _x.1
theorem sp_bags_Large_c1(_N:Nat):SpecD Try.prog [] 72 Ks_bags_Large_c1 Rk_bags_Large_c1 (D_bags_Large_c1 _N):=mkSpD (fn:=Try.f72) (c:=bodyOf Try.f72) (C:=C_bags_Large_c1 _N)
  (a:=.none)
  (by kernel_rfl) rfl (by kernel_rfl) (by kernel_rfl) ⟨rfl,by unfold TOk;kernel_rfl,gOk_of rfl rfl (zH _),iOk_of rfl rfl (zH _),rfl⟩ (fun _x=>by kernel_rfl)
theorem en_bags_Large_c1(_N:Nat):EntOk Try.prog [] (mkP 72 Ks_bags_Large_c1 Rk_bags_Large_c1 (D_bags_Large_c1 _N)):=entP ⟨Try.f72,bodyOf Try.f72,by kernel_rfl,by kernel_rfl,rfl⟩ (by kernel_rfl) (sp_bags_Large_c1 _N)
abbrev Ks_slices_IndexFunc_LLapi_Row_Lapi_Row_bags_Large_c1:List Kd:=[.dat (.sl (.sl Si)),.clo 72 []]
abbrev Rk_slices_IndexFunc_LLapi_Row_Lapi_Row_bags_Large_c1:List Kd:=[.dat (.int .i64)]
abbrev Rt_slices_IndexFunc_LLapi_Row_Lapi_Row_bags_Large_c1:Type:=Dens Rk_slices_IndexFunc_LLapi_Row_Lapi_Row_bags_Large_c1
def C_slices_IndexFunc_LLapi_Row_Lapi_Row_bags_Large_c1(_N:Nat):Ctx:={ T:=[(36,⟨.slice 41,1,24,some (.sl Si),[.nil],false,[]⟩),(37,⟨.slice 36,1,24,some (.sl (.sl Si)),[.nil],false,[]⟩)],G:=findE [mkP 72 Ks_bags_Large_c1 Rk_bags_Large_c1 (D_bags_Large_c1 _N)],I:=findI [],N:=_N,n:=19,fx:=[],fl:=0,gs:=[] }
def slices_IndexFunc_LLapi_Row_Lapi_Row_bags_Large_c1_1(_N:Nat):Option Rt_slices_IndexFunc_LLapi_Row_Lapi_Row_bags_Large_c1:=
 (some ((-1:Int),()))
def slices_IndexFunc_LLapi_Row_Lapi_Row_bags_Large_c1_2(_N:Nat)(_k6:Unit->Option Rt_slices_IndexFunc_LLapi_Row_Lapi_Row_bags_Large_c1)(_v1:List (List Yb))(_v2:Int)(_v3:Int)(_kn7:((List (List Yb))×Int)×Int->Option Rt_slices_IndexFunc_LLapi_Row_Lapi_Row_bags_Large_c1):Option Rt_slices_IndexFunc_LLapi_Row_Lapi_Row_bags_Large_c1:=
 (bif (decide (_v3<_v2)) then (bif (decide (0<=_v3)&&decide (_v3<(_v1.length:Int))) then ((D_bags_Large_c1 _N ((nth ([]) _v1 (_v3).toNat),())).bind fun _y8=>(bif _y8.1 then (some (_v3,())) else (_kn7 ((_v1,_v2),(IntKind.i64.wrap (_v3+(1:Int))))))) else none) else (_k6 ()))
def slices_IndexFunc_LLapi_Row_Lapi_Row_bags_Large_c1_3(_N:Nat)(_x1:List (List Yb)):Option Rt_slices_IndexFunc_LLapi_Row_Lapi_Row_bags_Large_c1:=
 (joinD (fun (_s:Unit)=>slices_IndexFunc_LLapi_Row_Lapi_Row_bags_Large_c1_1 _N) fun _k6=>(loopE (fun (_c:(List (List Yb))×Int) (_s:Int) _kn=>slices_IndexFunc_LLapi_Row_Lapi_Row_bags_Large_c1_2 _N _k6 _c.1 _c.2 _s _kn) _N (_x1,(_x1.length:Int)) (0:Int)))
def D_slices_IndexFunc_LLapi_Row_Lapi_Row_bags_Large_c1(_N:Nat)(_x:Dens Ks_slices_IndexFunc_LLapi_Row_Lapi_Row_bags_Large_c1):Option Rt_slices_IndexFunc_LLapi_Row_Lapi_Row_bags_Large_c1:=slices_IndexFunc_LLapi_Row_Lapi_Row_bags_Large_c1_3 _N _x.1
theorem sp_slices_IndexFunc_LLapi_Row_Lapi_Row_bags_Large_c1(_N:Nat):SpecD Try.prog [] 82 Ks_slices_IndexFunc_LLapi_Row_Lapi_Row_bags_Large_c1 Rk_slices_IndexFunc_LLapi_Row_Lapi_Row_bags_Large_c1 (D_slices_IndexFunc_LLapi_Row_Lapi_Row_bags_Large_c1 _N):=mkSpD (fn:=Try.f82) (c:=bodyOf Try.f82) (C:=C_slices_IndexFunc_LLapi_Row_Lapi_Row_bags_Large_c1 _N)
  (a:=.two .none (.join 0 ⟨[],[]⟩ (.two .none (.one (.loop 0 ⟨[(0,.sl (.sl Si)),(1,.clo 72 []),(7,.int .i64),(8,.int .i64)],[]⟩ [2] .none))) .none))
  (by kernel_rfl) rfl (by kernel_rfl) (by kernel_rfl) ⟨rfl,by unfold TOk;kernel_rfl,gOk_of rfl rfl (zR.2 ⟨en_bags_Large_c1 _N,(zH _)⟩),iOk_of rfl rfl (zH _),rfl⟩ (fun _x=>by kernel_rfl)
theorem en_slices_IndexFunc_LLapi_Row_Lapi_Row_bags_Large_c1(_N:Nat):EntOk Try.prog [] (mkP 82 Ks_slices_IndexFunc_LLapi_Row_Lapi_Row_bags_Large_c1 Rk_slices_IndexFunc_LLapi_Row_Lapi_Row_bags_Large_c1 (D_slices_IndexFunc_LLapi_Row_Lapi_Row_bags_Large_c1 _N)):=entP ⟨Try.f82,bodyOf Try.f82,by kernel_rfl,by kernel_rfl,rfl⟩ (by kernel_rfl) (sp_slices_IndexFunc_LLapi_Row_Lapi_Row_bags_Large_c1 _N)
abbrev Ks_slices_ContainsFunc_LLapi_Row_Lapi_Row_bags_Large_c1:List Kd:=[.dat (.sl (.sl Si)),.clo 72 []]
abbrev Rk_slices_ContainsFunc_LLapi_Row_Lapi_Row_bags_Large_c1:List Kd:=[.dat (.bool)]
abbrev Rt_slices_ContainsFunc_LLapi_Row_Lapi_Row_bags_Large_c1:Type:=Dens Rk_slices_ContainsFunc_LLapi_Row_Lapi_Row_bags_Large_c1
def C_slices_ContainsFunc_LLapi_Row_Lapi_Row_bags_Large_c1(_N:Nat):Ctx:={ T:=[],G:=findE [mkP 82 Ks_slices_IndexFunc_LLapi_Row_Lapi_Row_bags_Large_c1 Rk_slices_IndexFunc_LLapi_Row_Lapi_Row_bags_Large_c1 (D_slices_IndexFunc_LLapi_Row_Lapi_Row_bags_Large_c1 _N)],I:=findI [],N:=_N,n:=9,fx:=[],fl:=0,gs:=[] }
def slices_ContainsFunc_LLapi_Row_Lapi_Row_bags_Large_c1_1(_N:Nat)(_x1:List (List Yb)):Option Rt_slices_ContainsFunc_LLapi_Row_Lapi_Row_bags_Large_c1:=
 ((D_slices_IndexFunc_LLapi_Row_Lapi_Row_bags_Large_c1 _N (_x1,(),())).bind fun _y2=>(some ((decide (_y2.1>=(0:Int))),())))
def D_slices_ContainsFunc_LLapi_Row_Lapi_Row_bags_Large_c1(_N:Nat)(_x:Dens Ks_slices_ContainsFunc_LLapi_Row_Lapi_Row_bags_Large_c1):Option Rt_slices_ContainsFunc_LLapi_Row_Lapi_Row_bags_Large_c1:=slices_ContainsFunc_LLapi_Row_Lapi_Row_bags_Large_c1_1 _N _x.1
theorem sp_slices_ContainsFunc_LLapi_Row_Lapi_Row_bags_Large_c1(_N:Nat):SpecD Try.prog [] 71 Ks_slices_ContainsFunc_LLapi_Row_Lapi_Row_bags_Large_c1 Rk_slices_ContainsFunc_LLapi_Row_Lapi_Row_bags_Large_c1 (D_slices_ContainsFunc_LLapi_Row_Lapi_Row_bags_Large_c1 _N):=mkSpD (fn:=Try.f71) (c:=bodyOf Try.f71) (C:=C_slices_ContainsFunc_LLapi_Row_Lapi_Row_bags_Large_c1 _N)
  (a:=.none)
  (by kernel_rfl) rfl (by kernel_rfl) (by kernel_rfl) ⟨rfl,by unfold TOk;kernel_rfl,gOk_of rfl rfl (zR.2 ⟨en_slices_IndexFunc_LLapi_Row_Lapi_Row_bags_Large_c1 _N,(zH _)⟩),iOk_of rfl rfl (zH _),rfl⟩ (fun _x=>by kernel_rfl)
theorem en_slices_ContainsFunc_LLapi_Row_Lapi_Row_bags_Large_c1(_N:Nat):EntOk Try.prog [] (mkP 71 Ks_slices_ContainsFunc_LLapi_Row_Lapi_Row_bags_Large_c1 Rk_slices_ContainsFunc_LLapi_Row_Lapi_Row_bags_Large_c1 (D_slices_ContainsFunc_LLapi_Row_Lapi_Row_bags_Large_c1 _N)):=entP ⟨Try.f71,bodyOf Try.f71,by kernel_rfl,by kernel_rfl,rfl⟩ (by kernel_rfl) (sp_slices_ContainsFunc_LLapi_Row_Lapi_Row_bags_Large_c1 _N)
abbrev Ks_bags_Large:List Kd:=[.dat (.sl (.sl Si))]
abbrev Rk_bags_Large:List Kd:=[.dat (.bool)]
abbrev Rt_bags_Large:Type:=Dens Rk_bags_Large
def C_bags_Large(_N:Nat):Ctx:={ T:=[],G:=findE [mkP 71 Ks_slices_ContainsFunc_LLapi_Row_Lapi_Row_bags_Large_c1 Rk_slices_ContainsFunc_LLapi_Row_Lapi_Row_bags_Large_c1 (D_slices_ContainsFunc_LLapi_Row_Lapi_Row_bags_Large_c1 _N)],I:=findI [],N:=_N,n:=5,fx:=[],fl:=0,gs:=[] }
def bags_Large_1(_N:Nat)(_x1:List (List Yb)):Option Rt_bags_Large:=
 ((D_slices_ContainsFunc_LLapi_Row_Lapi_Row_bags_Large_c1 _N (_x1,(),())).bind fun _y2=>(some (_y2.1,())))
def D_bags_Large(_N:Nat)(_x:Dens Ks_bags_Large):Option Rt_bags_Large:=bags_Large_1 _N _x.1
theorem sp_bags_Large(_N:Nat):SpecD Try.prog [] 45 Ks_bags_Large Rk_bags_Large (D_bags_Large _N):=mkSpD (fn:=Try.f45) (c:=bodyOf Try.f45) (C:=C_bags_Large _N)
  (a:=.none)
  (by kernel_rfl) rfl (by kernel_rfl) (by kernel_rfl) ⟨rfl,by unfold TOk;kernel_rfl,gOk_of rfl rfl (zR.2 ⟨en_slices_ContainsFunc_LLapi_Row_Lapi_Row_bags_Large_c1 _N,(zH _)⟩),iOk_of rfl rfl (zH _),rfl⟩ (fun _x=>by kernel_rfl)
theorem en_bags_Large(_N:Nat):EntOk Try.prog [] (mkP 45 Ks_bags_Large Rk_bags_Large (D_bags_Large _N)):=entP ⟨Try.f45,bodyOf Try.f45,by kernel_rfl,by kernel_rfl,rfl⟩ (by kernel_rfl) (sp_bags_Large _N)
abbrev Ks_cmp_isNaN_int64:List Kd:=[.dat (.int .i64)]
abbrev Rk_cmp_isNaN_int64:List Kd:=[.dat (.bool)]
abbrev Rt_cmp_isNaN_int64:Type:=Dens Rk_cmp_isNaN_int64
def C_cmp_isNaN_int64(_N:Nat):Ctx:={ T:=[],G:=findE [],I:=findI [],N:=_N,n:=6,fx:=[],fl:=0,gs:=[] }
def cmp_isNaN_int64_1(_N:Nat)(_x1:Int):Option Rt_cmp_isNaN_int64:=
 (some ((_x1 != _x1),()))
def D_cmp_isNaN_int64(_N:Nat)(_x:Dens Ks_cmp_isNaN_int64):Option Rt_cmp_isNaN_int64:=cmp_isNaN_int64_1 _N _x.1
theorem sp_cmp_isNaN_int64(_N:Nat):SpecD Try.prog [] 75 Ks_cmp_isNaN_int64 Rk_cmp_isNaN_int64 (D_cmp_isNaN_int64 _N):=mkSpD (fn:=Try.f75) (c:=bodyOf Try.f75) (C:=C_cmp_isNaN_int64 _N)
  (a:=.none)
  (by kernel_rfl) rfl (by kernel_rfl) (by kernel_rfl) ⟨rfl,by unfold TOk;kernel_rfl,gOk_of rfl rfl (zH _),iOk_of rfl rfl (zH _),rfl⟩ (fun _x=>by kernel_rfl)
theorem en_cmp_isNaN_int64(_N:Nat):EntOk Try.prog [] (mkP 75 Ks_cmp_isNaN_int64 Rk_cmp_isNaN_int64 (D_cmp_isNaN_int64 _N)):=entP ⟨Try.f75,bodyOf Try.f75,by kernel_rfl,by kernel_rfl,rfl⟩ (by kernel_rfl) (sp_cmp_isNaN_int64 _N)
abbrev Ks_cmp_Compare_int64:List Kd:=[.dat (.int .i64),.dat (.int .i64)]
abbrev Rk_cmp_Compare_int64:List Kd:=[.dat (.int .i64)]
abbrev Rt_cmp_Compare_int64:Type:=Dens Rk_cmp_Compare_int64
def C_cmp_Compare_int64(_N:Nat):Ctx:={ T:=[],G:=findE [mkP 75 Ks_cmp_isNaN_int64 Rk_cmp_isNaN_int64 (D_cmp_isNaN_int64 _N)],I:=findI [],N:=_N,n:=20,fx:=[],fl:=0,gs:=[] }
def cmp_Compare_int64_1(_N:Nat)(_x1:Int)(_x2:Int):Option Rt_cmp_Compare_int64:=
 ((D_cmp_isNaN_int64 _N (_x1,())).bind fun _y3=>((D_cmp_isNaN_int64 _N (_x2,())).bind fun _y4=>(bif _y3.1 then (bif _y4.1 then (some ((0:Int),())) else (some ((-1:Int),()))) else (bif _y4.1 then (some ((1:Int),())) else (bif (decide (_x1<_x2)) then (some ((-1:Int),())) else (bif (decide (_x1>_x2)) then (some ((1:Int),())) else (some ((0:Int),()))))))))
def D_cmp_Compare_int64(_N:Nat)(_x:Dens Ks_cmp_Compare_int64):Option Rt_cmp_Compare_int64:=cmp_Compare_int64_1 _N _x.1 _x.2.1
theorem sp_cmp_Compare_int64(_N:Nat):SpecD Try.prog [] 50 Ks_cmp_Compare_int64 Rk_cmp_Compare_int64 (D_cmp_Compare_int64 _N):=mkSpD (fn:=Try.f50) (c:=bodyOf Try.f50) (C:=C_cmp_Compare_int64 _N)
  (a:=.none)
  (by kernel_rfl) rfl (by kernel_rfl) (by kernel_rfl) ⟨rfl,by unfold TOk;kernel_rfl,gOk_of rfl rfl (zR.2 ⟨en_cmp_isNaN_int64 _N,(zH _)⟩),iOk_of rfl rfl (zH _),rfl⟩ (fun _x=>by kernel_rfl)
theorem en_cmp_Compare_int64(_N:Nat):EntOk Try.prog [] (mkP 50 Ks_cmp_Compare_int64 Rk_cmp_Compare_int64 (D_cmp_Compare_int64 _N)):=entP ⟨Try.f50,bodyOf Try.f50,by kernel_rfl,by kernel_rfl,rfl⟩ (by kernel_rfl) (sp_cmp_Compare_int64 _N)
abbrev Ks_cmp_Or_int:List Kd:=[.dat (.sl (.int .i64))]
abbrev Rk_cmp_Or_int:List Kd:=[.dat (.int .i64)]
abbrev Rt_cmp_Or_int:Type:=Dens Rk_cmp_Or_int
def C_cmp_Or_int(_N:Nat):Ctx:={ T:=[(3,⟨.int .i64,1,8,some (.int .i64),[.int .i64 (0:Int)],false,[]⟩),(48,⟨.slice 3,1,24,some (.sl (.int .i64)),[.nil],false,[]⟩)],G:=findE [],I:=findI [],N:=_N,n:=18,fx:=[],fl:=0,gs:=[] }
def cmp_Or_int_1(_N:Nat)(_v5:Int):Option Rt_cmp_Or_int:=
 (some (_v5,()))
def cmp_Or_int_2(_N:Nat)(_k6:Int->Option Rt_cmp_Or_int)(_v1:Int)(_v2:List Int)(_v3:Int)(_v4:Int)(_kn7:(Int×List Int×Int)×Int->Option Rt_cmp_Or_int):Option Rt_cmp_Or_int:=
 (bif (decide (_v4<_v3)) then (bif (decide (0<=_v4)&&decide (_v4<(_v2.length:Int))) then (bif ((nth (0:Int) _v2 (_v4).toNat) != _v1) then (some ((nth (0:Int) _v2 (_v4).toNat),())) else (_kn7 ((_v1,_v2,_v3),(IntKind.i64.wrap (_v4+(1:Int)))))) else none) else (_k6 _v1))
def cmp_Or_int_3(_N:Nat)(_x1:List Int):Option Rt_cmp_Or_int:=
 (joinD (fun (_s:Int)=>cmp_Or_int_1 _N _s) fun _k6=>(loopE (fun (_c:Int×List Int×Int) (_s:Int) _kn=>cmp_Or_int_2 _N _k6 _c.1 _c.2.1 _c.2.2 _s _kn) _N ((0:Int),_x1,(_x1.length:Int)) (0:Int)))
def D_cmp_Or_int(_N:Nat)(_x:Dens Ks_cmp_Or_int):Option Rt_cmp_Or_int:=cmp_Or_int_3 _N _x.1
theorem sp_cmp_Or_int(_N:Nat):SpecD Try.prog [] 49 Ks_cmp_Or_int Rk_cmp_Or_int (D_cmp_Or_int _N):=mkSpD (fn:=Try.f49) (c:=bodyOf Try.f49) (C:=C_cmp_Or_int _N)
  (a:=.two .none (.two .none (.join 0 ⟨[(3,.int .i64)],[]⟩ (.two .none (.one (.loop 0 ⟨[(3,.int .i64),(6,.sl (.int .i64)),(7,.int .i64),(8,.int .i64)],[]⟩ [3] .none))) .none)))
  (by kernel_rfl) rfl (by kernel_rfl) (by kernel_rfl) ⟨rfl,by unfold TOk;kernel_rfl,gOk_of rfl rfl (zH _),iOk_of rfl rfl (zH _),rfl⟩ (fun _x=>by kernel_rfl)
theorem en_cmp_Or_int(_N:Nat):EntOk Try.prog [] (mkP 49 Ks_cmp_Or_int Rk_cmp_Or_int (D_cmp_Or_int _N)):=entP ⟨Try.f49,bodyOf Try.f49,by kernel_rfl,by kernel_rfl,rfl⟩ (by kernel_rfl) (sp_cmp_Or_int _N)
abbrev Ks_bags_Bag_Rows_c1:List Kd:=[.dat Si,.dat Si]
abbrev Rk_bags_Bag_Rows_c1:List Kd:=[.dat (.int .i64)]
abbrev Rt_bags_Bag_Rows_c1:Type:=Dens Rk_bags_Bag_Rows_c1
def C_bags_Bag_Rows_c1(_N:Nat):Ctx:={ T:=[(2,⟨.int .i64,1,8,some (.int .i64),[.int .i64 (0:Int)],false,[]⟩),(3,⟨.int .i64,1,8,some (.int .i64),[.int .i64 (0:Int)],false,[]⟩),(41,⟨.struct [(0,2),(1,2),(2,2)],3,24,some Si,[.int .i64 (0:Int),.int .i64 (0:Int),.int .i64 (0:Int)],true,[]⟩),(48,⟨.slice 3,1,24,some (.sl (.int .i64)),[.nil],false,[]⟩)],G:=findE [mkP 50 Ks_cmp_Compare_int64 Rk_cmp_Compare_int64 (D_cmp_Compare_int64 _N),mkP 49 Ks_cmp_Or_int Rk_cmp_Or_int (D_cmp_Or_int _N)],I:=findI [],N:=_N,n:=17,fx:=[],fl:=0,gs:=[] }
def bags_Bag_Rows_c1_1(_N:Nat)(_x1:Int×Int×Int)(_x2:Int×Int×Int):Option Rt_bags_Bag_Rows_c1:=
 ((D_cmp_Compare_int64 _N (_x1.1,_x2.1,())).bind fun _y4=>((D_cmp_Compare_int64 _N (_x1.2.1,_x2.2.1,())).bind fun _y5=>((D_cmp_Or_int _N ([_y4.1,_y5.1],())).bind fun _y6=>(some (_y6.1,())))))
def D_bags_Bag_Rows_c1(_N:Nat)(_x:Dens Ks_bags_Bag_Rows_c1):Option Rt_bags_Bag_Rows_c1:=bags_Bag_Rows_c1_1 _N _x.1 _x.2.1
theorem sp_bags_Bag_Rows_c1(_N:Nat):SpecD Try.prog [] 48 Ks_bags_Bag_Rows_c1 Rk_bags_Bag_Rows_c1 (D_bags_Bag_Rows_c1 _N):=mkSpD (fn:=Try.f48) (c:=bodyOf Try.f48) (C:=C_bags_Bag_Rows_c1 _N)
  (a:=.two .none (.two (.draw 1 [.pure,.rd [0],.pure,.rd [1],.pure,.pure,.rd [0],.pure,.rd [1],.pure,.new 2,.rd [2],.pure]) .none))
  (by kernel_rfl) rfl (by kernel_rfl) (by kernel_rfl) ⟨rfl,by unfold TOk;kernel_rfl,gOk_of rfl rfl (zR.2 ⟨en_cmp_Compare_int64 _N,(zR.2 ⟨en_cmp_Or_int _N,(zH _)⟩)⟩),iOk_of rfl rfl (zH _),rfl⟩ (fun _x=>by kernel_rfl)
shelf_lay_g SlLaysF0.n6 Slsf 6 at Try 47 as lay_sortRow
theorem hb_sortRow:HasBody Try.prog 47:=⟨Try.f47,bodyOf Try.f47,by kernel_rfl,by kernel_rfl,rfl⟩
theorem hg_sortRow:HasBody Try.prog 48:=⟨Try.f48,bodyOf Try.f48,by kernel_rfl,by kernel_rfl,rfl⟩
theorem en_sortRow(_N:Nat):EntOk Try.prog [] (mkS 47 41 Si 48 (fun p q=>(D_bags_Bag_Rows_c1 _N (p,q,())).map (·.1))):=entSK lay_sortRow Try.isAgg41 Try.sizeOf41 hb_sortRow hg_sortRow (by kernel_rfl) rfl (sp_bags_Bag_Rows_c1 _N)
abbrev Sg_bags_Bag_Add_h:Sig:=⟨[.form (.ptr 0 1000000),.dat false Sj,.dat false (.int .i64)],[.oth false ⟨false,105,2,.pair (.int .i64) (.int .i64),.int .i64,false⟩],
 [],[.oth false ⟨false,105,2,.pair (.int .i64) (.int .i64),.int .i64,false⟩],[]⟩
abbrev Rt_bags_Bag_Add_h:Type:=Ya
def C_bags_Bag_Add_h(_N:Nat):Ctx:={ T:=[(78,⟨.map 105 2 Sj (.int .i64),1,8,none,[.nl .map],false,[]⟩),(105,⟨.struct [(0,2),(1,2)],2,16,some Sj,[.int .i64 (0:Int),.int .i64 (0:Int)],true,[]⟩)],G:=findE [],I:=findI [],N:=_N,n:=19,fx:=[],fl:=1,gs:=[] }
def bags_Bag_Add_h_1(_N:Nat)(_x1:Int×Int)(_x2:Int)(_x3:Int×List Yc):Option Rt_bags_Bag_Add_h:=
 (bif (mpStands Sj (.int .i64) (mpEnt Sj (.int .i64) _x3 (_x1.1,_x1.2)) (mpWhen Sj (.int .i64) _x3 (_x1.1,_x1.2))) then (bif ((mpGet Sj (.int .i64) (mpAt Sj (.int .i64) (mpEnt Sj (.int .i64) _x3 (_x1.1,_x1.2)) (mpWhen Sj (.int .i64) _x3 (_x1.1,_x1.2)) (IntKind.i64.wrap ((mpGet Sj (.int .i64) _x3 (_x1.1,_x1.2))+_x2))) (_x1.1,_x1.2))==(0:Int)) then (some (mpDel Sj (.int .i64) (mpAt Sj (.int .i64) (mpEnt Sj (.int .i64) _x3 (_x1.1,_x1.2)) (mpWhen Sj (.int .i64) _x3 (_x1.1,_x1.2)) (IntKind.i64.wrap ((mpGet Sj (.int .i64) _x3 (_x1.1,_x1.2))+_x2))) (_x1.1,_x1.2))) else (some (mpAt Sj (.int .i64) (mpEnt Sj (.int .i64) _x3 (_x1.1,_x1.2)) (mpWhen Sj (.int .i64) _x3 (_x1.1,_x1.2)) (IntKind.i64.wrap ((mpGet Sj (.int .i64) _x3 (_x1.1,_x1.2))+_x2))))) else none)
def D_bags_Bag_Add_h(_N:Nat)(_x:(Int×Int)×Int×Ya):Option Rt_bags_Bag_Add_h:=bags_Bag_Add_h_1 _N _x.1 _x.2.1 _x.2.2
theorem sp_bags_Bag_Add_h(_N:Nat):SpecH Try.prog [] 46 Sg_bags_Bag_Add_h (D_bags_Bag_Add_h _N):=mkSpH (fn:=Try.f46) (c:=bodyOf Try.f46) (C:=(C_bags_Bag_Add_h _N))
  (a:=.two .none (.two (.draw 0 [.pure,.rd [1],.rd [0],.pure,.pure,.wr [0],.pure,.wr [0]]) .none))
  (by kernel_rfl) rfl (by kernel_rfl) (by kernel_rfl) (by kernel_rfl) rfl ⟨rfl,by unfold TOk;kernel_rfl,gOk_of rfl rfl (zH _),iOk_of rfl rfl (zH _),rfl⟩ (fun _x=>by kernel_rfl)
theorem en_bags_Bag_Add_h(_N:Nat):EntOk Try.prog [] (mkHe 46 Sg_bags_Bag_Add_h (D_bags_Bag_Add_h _N)):=entH ⟨Try.f46,bodyOf Try.f46,by kernel_rfl,by kernel_rfl,rfl⟩ (sp_bags_Bag_Add_h _N)
abbrev Sg_bags_Bag_Pour_h:Sig:=⟨[.form (.ptr 0 1000000),.dat false (.sl Si),.dat false (.int .i64)],[.oth false ⟨false,105,2,.pair (.int .i64) (.int .i64),.int .i64,false⟩],
 [],[.oth false ⟨false,105,2,.pair (.int .i64) (.int .i64),.int .i64,false⟩],[]⟩
abbrev Rt_bags_Bag_Pour_h:Type:=Ya
def C_bags_Bag_Pour_h(_N:Nat):Ctx:={ T:=[(2,⟨.int .i64,1,8,some (.int .i64),[.int .i64 (0:Int)],false,[]⟩),(36,⟨.slice 41,1,24,some (.sl Si),[.nil],false,[]⟩),(41,⟨.struct [(0,2),(1,2),(2,2)],3,24,some Si,[.int .i64 (0:Int),.int .i64 (0:Int),.int .i64 (0:Int)],true,[]⟩),(105,⟨.struct [(0,2),(1,2)],2,16,some Sj,[.int .i64 (0:Int),.int .i64 (0:Int)],true,[]⟩)],G:=findE [mkHe 46 Sg_bags_Bag_Add_h (D_bags_Bag_Add_h _N)],I:=findI [],N:=_N,n:=26,fx:=[],fl:=1,gs:=[] }
def bags_Bag_Pour_h_1(_N:Nat)(_v1:Int)(_v2:List Yb)(_v3:Int)(_v4:Int)(_v5:Int×List Yc)(_kn8:(Int×(List Yb)×Int)×(Int×Ya)->Option Rt_bags_Bag_Pour_h):Option Rt_bags_Bag_Pour_h:=
 (bif (decide (_v4<_v3)) then (bif (decide (0<=_v4)&&decide (_v4<(_v2.length:Int))) then ((D_bags_Bag_Add_h _N (((nth ((0:Int),((0:Int),(0:Int))) _v2 (_v4).toNat).1,((nth ((0:Int),((0:Int),(0:Int))) _v2 (_v4).toNat).2).1),(IntKind.i64.wrap (_v1*(((nth ((0:Int),((0:Int),(0:Int))) _v2 (_v4).toNat).2).2))),_v5)).bind fun _y9=>(_kn8 ((_v1,_v2,_v3),((IntKind.i64.wrap (_v4+(1:Int))),_y9)))) else none) else (some _v5))
def bags_Bag_Pour_h_2(_N:Nat)(_x1:List Yb)(_x2:Int)(_x3:Int×List Yc):Option Rt_bags_Bag_Pour_h:=
 (loopE (fun (_c:Int×(List Yb)×Int) (_s:Int×Ya) _kn=>bags_Bag_Pour_h_1 _N _c.1 _c.2.1 _c.2.2 _s.1 _s.2 _kn) _N (_x2,_x1,(_x1.length:Int)) ((0:Int),_x3))
def D_bags_Bag_Pour_h(_N:Nat)(_x:(List Yb)×Int×Ya):Option Rt_bags_Bag_Pour_h:=bags_Bag_Pour_h_2 _N _x.1 _x.2.1 _x.2.2
theorem sp_bags_Bag_Pour_h(_N:Nat):SpecH Try.prog [] 51 Sg_bags_Bag_Pour_h (D_bags_Bag_Pour_h _N):=mkSpH (fn:=Try.f51) (c:=bodyOf Try.f51) (C:=(C_bags_Bag_Pour_h _N))
  (a:=.two .none (.one (.loop 1 ⟨[(0,.ptr 0 1000000),(2,.int .i64),(8,.sl Si),(9,.int .i64),(10,.int .i64)],[.oth false ⟨false,105,2,.pair (.int .i64) (.int .i64),.int .i64,false⟩]⟩ [3,4] .none)))
  (by kernel_rfl) rfl (by kernel_rfl) (by kernel_rfl) (by kernel_rfl) rfl ⟨rfl,by unfold TOk;kernel_rfl,gOk_of rfl rfl (zR.2 ⟨en_bags_Bag_Add_h _N,(zH _)⟩),iOk_of rfl rfl (zH _),rfl⟩ (fun _x=>by kernel_rfl)
theorem en_bags_Bag_Pour_h(_N:Nat):EntOk Try.prog [] (mkHe 51 Sg_bags_Bag_Pour_h (D_bags_Bag_Pour_h _N)):=entH ⟨Try.f51,bodyOf Try.f51,by kernel_rfl,by kernel_rfl,rfl⟩ (sp_bags_Bag_Pour_h _N)
abbrev Sg_bags_Bag_Rows_h:Sig:=⟨[.form (.ptr 0 1000000)],[.oth false ⟨false,105,2,.pair (.int .i64) (.int .i64),.int .i64,false⟩],
 [.dat false (.sl Si)],[.oth true ⟨false,105,2,.pair (.int .i64) (.int .i64),.int .i64,false⟩],[]⟩
abbrev Rt_bags_Bag_Rows_h:Type:=(List Yb)×Ya
def C_bags_Bag_Rows_h(_N:Nat):Ctx:={ T:=[(2,⟨.int .i64,1,8,some (.int .i64),[.int .i64 (0:Int)],false,[]⟩),(36,⟨.slice 41,1,24,some (.sl Si),[.nil],false,[]⟩),(41,⟨.struct [(0,2),(1,2),(2,2)],3,24,some Si,[.int .i64 (0:Int),.int .i64 (0:Int),.int .i64 (0:Int)],true,[]⟩),(78,⟨.map 105 2 Sj (.int .i64),1,8,none,[.nl .map],false,[]⟩),(105,⟨.struct [(0,2),(1,2)],2,16,some Sj,[.int .i64 (0:Int),.int .i64 (0:Int)],true,[]⟩)],G:=findE [mkS 47 41 Si 48 (fun p q=>(D_bags_Bag_Rows_c1 _N (p,q,())).map (·.1))],I:=findI [],N:=_N,n:=25,fx:=[2],fl:=1,gs:=[] }
def bags_Bag_Rows_h_1(_N:Nat)(_v10:Int×List Yc)(_v12:List Yb):Option Rt_bags_Bag_Rows_h:=
 ((sortR (fun p q=>(D_bags_Bag_Rows_c1 _N (p,q,())).map (·.1)) _v12).bind fun _y14=>(some (_y14,_v10)))
def bags_Bag_Rows_h_2(_N:Nat)(_k15:(Ya×Ya×(List Yb))->Option Rt_bags_Bag_Rows_h)(_v1:Int×List Yc)(_v2:Int×List Yc)(_v5:List Yb)(_kn16:Ya×(Ya×(List Yb))->Option Rt_bags_Bag_Rows_h):Option Rt_bags_Bag_Rows_h:=
 (nextE (k:=.pair (.int .i64) (.int .i64)) (v:=.int .i64) _v2 (_k15 (_v1,_v2,_v5)) (fun _y17=>fun _y18=>(bif (decide ((_v5.length+([(_y17.2.1.1,(_y17.2.1.2,_y17.2.2))]).length)*24<=140737488355328)&&Nat.ble 1 24) then (_kn16 (_v1,(((1:Int),_y17 :: _y18),(_v5 ++ [(_y17.2.1.1,(_y17.2.1.2,_y17.2.2))])))) else none)))
def bags_Bag_Rows_h_3(_N:Nat)(_x1:Int×List Yc):Option Rt_bags_Bag_Rows_h:=
 (joinD (fun (_s:Ya×Ya×(List Yb))=>bags_Bag_Rows_h_1 _N _s.1 _s.2.2) fun _k15=>(loopE (fun (_c:Ya) (_s:Ya×(List Yb)) _kn=>bags_Bag_Rows_h_2 _N _k15 _c _s.1 _s.2 _kn) _N _x1 (((0:Int),_x1.2),[])))
def D_bags_Bag_Rows_h(_N:Nat)(_x:Ya):Option Rt_bags_Bag_Rows_h:=bags_Bag_Rows_h_3 _N _x
theorem sp_bags_Bag_Rows_h(_N:Nat):SpecH Try.prog [] 31 Sg_bags_Bag_Rows_h (D_bags_Bag_Rows_h _N):=mkSpH (fn:=Try.f31) (c:=bodyOf Try.f31) (C:=(C_bags_Bag_Rows_h _N))
  (a:=.two .none (.two .none (.join 3 ⟨[(3,.slc 2 0)],[.oth true ⟨false,105,2,.pair (.int .i64) (.int .i64),.int .i64,false⟩,.oth false ⟨true,105,2,.pair (.int .i64) (.int .i64),.int .i64,false⟩,.row false 0 41 Si]⟩ (.two .none (.one (.obj 3 41 Si (.loop 3 ⟨[(3,.slc 2 0),(7,.ptr 1 1000000)],[.oth true ⟨false,105,2,.pair (.int .i64) (.int .i64),.int .i64,false⟩,.oth false ⟨true,105,2,.pair (.int .i64) (.int .i64),.int .i64,false⟩,.row false 0 41 Si]⟩ [1,2] (.two .nx .none))))) .none)))
  (by kernel_rfl) rfl (by kernel_rfl) (by kernel_rfl) (by kernel_rfl) rfl ⟨rfl,by unfold TOk;kernel_rfl,gOk_of rfl rfl (zR.2 ⟨en_sortRow _N,(zH _)⟩),iOk_of rfl rfl (zH _),rfl⟩ (fun _x=>by kernel_rfl)
theorem en_bags_Bag_Rows_h(_N:Nat):EntOk Try.prog [] (mkHe 31 Sg_bags_Bag_Rows_h (D_bags_Bag_Rows_h _N)):=entH ⟨Try.f31,bodyOf Try.f31,by kernel_rfl,by kernel_rfl,rfl⟩ (sp_bags_Bag_Rows_h _N)
abbrev Sg_bags_Bag_Tells_h:Sig:=⟨[.form (.ptr 0 1000000)],[.oth false ⟨false,105,2,.pair (.int .i64) (.int .i64),.int .i64,false⟩],
 [.dat false (.sl Si),.dat false (.int .i64)],[.oth true ⟨false,105,2,.pair (.int .i64) (.int .i64),.int .i64,false⟩],[]⟩
abbrev Rt_bags_Bag_Tells_h:Type:=(List Yb)×Int×Ya
def C_bags_Bag_Tells_h(_N:Nat):Ctx:={ T:=[(78,⟨.map 105 2 Sj (.int .i64),1,8,none,[.nl .map],false,[]⟩)],G:=findE [mkHe 31 Sg_bags_Bag_Rows_h (D_bags_Bag_Rows_h _N)],I:=findI [],N:=_N,n:=9,fx:=[0],fl:=1,gs:=[] }
def bags_Bag_Tells_h_1(_N:Nat)(_x1:Int×List Yc):Option Rt_bags_Bag_Tells_h:=
 (bif (decide ((_x1.2.length:Int)>(128:Int))) then (some ([],(1:Int),_x1)) else ((D_bags_Bag_Rows_h _N _x1).bind fun _y2=>(some (_y2.1,(0:Int),_y2.2))))
def D_bags_Bag_Tells_h(_N:Nat)(_x:Ya):Option Rt_bags_Bag_Tells_h:=bags_Bag_Tells_h_1 _N _x
theorem sp_bags_Bag_Tells_h(_N:Nat):SpecH Try.prog [] 52 Sg_bags_Bag_Tells_h (D_bags_Bag_Tells_h _N):=mkSpH (fn:=Try.f52) (c:=bodyOf Try.f52) (C:=(C_bags_Bag_Tells_h _N))
  (a:=.none)
  (by kernel_rfl) rfl (by kernel_rfl) (by kernel_rfl) (by kernel_rfl) rfl ⟨rfl,by unfold TOk;kernel_rfl,gOk_of rfl rfl (zR.2 ⟨en_bags_Bag_Rows_h _N,(zH _)⟩),iOk_of rfl rfl (zH _),rfl⟩ (fun _x=>by kernel_rfl)
theorem en_bags_Bag_Tells_h(_N:Nat):EntOk Try.prog [] (mkHe 52 Sg_bags_Bag_Tells_h (D_bags_Bag_Tells_h _N)):=entH ⟨Try.f52,bodyOf Try.f52,by kernel_rfl,by kernel_rfl,rfl⟩ (sp_bags_Bag_Tells_h _N)
abbrev Ks_bags_mixed:List Kd:=[.dat (.sl Si),.dat (.sl Si),.dat (.int .i64),.dat (.int .i64)]
abbrev Rk_bags_mixed:List Kd:=[.dat (.sl Si),.dat (.int .i64)]
abbrev Rt_bags_mixed:Type:=Dens Rk_bags_mixed
def C_bags_mixed(_N:Nat):Ctx:={ T:=[(36,⟨.slice 41,1,24,some (.sl Si),[.nil],false,[]⟩),(37,⟨.slice 36,1,24,some (.sl (.sl Si)),[.nil],false,[]⟩),(78,⟨.map 105 2 Sj (.int .i64),1,8,none,[.nl .map],false,[]⟩)],G:=findE [mkP 45 Ks_bags_Large Rk_bags_Large (D_bags_Large _N),mkHe 51 Sg_bags_Bag_Pour_h (D_bags_Bag_Pour_h _N),mkHe 52 Sg_bags_Bag_Tells_h (D_bags_Bag_Tells_h _N)],I:=findI [],N:=_N,n:=28,fx:=[],fl:=0,gs:=[] }
def bags_mixed_1(_N:Nat)(_x1:List Yb)(_x2:List Yb)(_x3:Int)(_x4:Int):Option Rt_bags_mixed:=
 ((D_bags_Large _N ([_x1,_x2],())).bind fun _y5=>(bif _y5.1 then (some ([],(1:Int),())) else ((D_bags_Bag_Pour_h _N (_x1,_x3,((0:Int),([]:List Yc)))).bind fun _y6=>((D_bags_Bag_Pour_h _N (_x2,_x4,_y6)).bind fun _y7=>((D_bags_Bag_Tells_h _N _y7).bind fun _y8=>(some (_y8.1,_y8.2.1,())))))))
def D_bags_mixed(_N:Nat)(_x:Dens Ks_bags_mixed):Option Rt_bags_mixed:=bags_mixed_1 _N _x.1 _x.2.1 _x.2.2.1 _x.2.2.2.1
theorem sp_bags_mixed(_N:Nat):SpecD Try.prog [] 32 Ks_bags_mixed Rk_bags_mixed (D_bags_mixed _N):=mkSpD (fn:=Try.f32) (c:=bodyOf Try.f32) (C:=C_bags_mixed _N)
  (a:=.none)
  (by kernel_rfl) rfl (by kernel_rfl) (by kernel_rfl) ⟨rfl,by unfold TOk;kernel_rfl,gOk_of rfl rfl (zR.2 ⟨en_bags_Large _N,(zR.2 ⟨en_bags_Bag_Pour_h _N,(zR.2 ⟨en_bags_Bag_Tells_h _N,(zH _)⟩)⟩)⟩),iOk_of rfl rfl (zH _),rfl⟩ (fun _x=>by kernel_rfl)
theorem qen_bags_mixed(_N:Nat):EntOk Try.prog [] (mkQ 32 Ks_bags_mixed Rk_bags_mixed (D_bags_mixed _N)):=entQ ⟨Try.f32,bodyOf Try.f32,by kernel_rfl,by kernel_rfl,rfl⟩ (sp_bags_mixed _N)
abbrev Ks_bags_Tidy:List Kd:=[.dat (.sl Si)]
abbrev Rk_bags_Tidy:List Kd:=[.dat (.sl Si),.dat (.int .i64)]
abbrev Rt_bags_Tidy:Type:=Dens Rk_bags_Tidy
def C_bags_Tidy(_N:Nat):Ctx:={ T:=[],G:=findE [mkQ 32 Ks_bags_mixed Rk_bags_mixed (D_bags_mixed _N)],I:=findI [],N:=_N,n:=8,fx:=[],fl:=0,gs:=[] }
def bags_Tidy_1(_N:Nat)(_x1:List Yb):Option Rt_bags_Tidy:=
 ((D_bags_mixed _N (_x1,[],(1:Int),(0:Int),())).bind fun _y2=>(some (_y2.1,_y2.2.1,())))
def D_bags_Tidy(_N:Nat)(_x:Dens Ks_bags_Tidy):Option Rt_bags_Tidy:=bags_Tidy_1 _N _x.1
theorem sp_bags_Tidy(_N:Nat):SpecD Try.prog [] 15 Ks_bags_Tidy Rk_bags_Tidy (D_bags_Tidy _N):=mkSpD (fn:=Try.f15) (c:=bodyOf Try.f15) (C:=C_bags_Tidy _N)
  (a:=.none)
  (by kernel_rfl) rfl (by kernel_rfl) (by kernel_rfl) ⟨rfl,by unfold TOk;kernel_rfl,gOk_of rfl rfl (zR.2 ⟨qen_bags_mixed _N,(zH _)⟩),iOk_of rfl rfl (zH _),rfl⟩ (fun _x=>by kernel_rfl)
theorem en_bags_Tidy(_N:Nat):EntOk Try.prog [] (mkD 15 Ks_bags_Tidy Rk_bags_Tidy (D_bags_Tidy _N)):=entD ⟨Try.f15,bodyOf Try.f15,by kernel_rfl,by kernel_rfl,rfl⟩ (sp_bags_Tidy _N)
theorem qen_bags_Tidy(_N:Nat):EntOk Try.prog [] (mkQ 15 Ks_bags_Tidy Rk_bags_Tidy (D_bags_Tidy _N)):=entQ ⟨Try.f15,bodyOf Try.f15,by kernel_rfl,by kernel_rfl,rfl⟩ (sp_bags_Tidy _N)
abbrev Ks_ref_BagsSame:List Kd:=[.dat (.sl Si),.dat (.sl Si)]
abbrev Rk_ref_BagsSame:List Kd:=[.dat (.bool)]
abbrev Rt_ref_BagsSame:Type:=Dens Rk_ref_BagsSame
def C_ref_BagsSame(_N:Nat):Ctx:={ T:=[(36,⟨.slice 41,1,24,some (.sl Si),[.nil],false,[]⟩),(41,⟨.struct [(0,2),(1,2),(2,2)],3,24,some Si,[.int .i64 (0:Int),.int .i64 (0:Int),.int .i64 (0:Int)],true,[]⟩)],G:=findE [],I:=findI [],N:=_N,n:=26,fx:=[],fl:=0,gs:=[] }
def ref_BagsSame_1(_N:Nat):Option Rt_ref_BagsSame:=
 (some (true,()))
def ref_BagsSame_2(_N:Nat)(_k4:Unit->Option Rt_ref_BagsSame)(_v1:List Yb)(_v2:List Yb)(_v3:Int)(_kn5:((List Yb)×(List Yb))×Int->Option Rt_ref_BagsSame):Option Rt_ref_BagsSame:=
 (bif (decide (_v3<(_v1.length:Int))) then (bif (decide (0<=_v3)&&decide (_v3<(_v1.length:Int))) then (bif (decide (0<=_v3)&&decide (_v3<(_v2.length:Int))) then (bif (!(eqD Si ((nth ((0:Int),((0:Int),(0:Int))) _v1 (_v3).toNat).1,(((nth ((0:Int),((0:Int),(0:Int))) _v1 (_v3).toNat).2).1,((nth ((0:Int),((0:Int),(0:Int))) _v1 (_v3).toNat).2).2)) ((nth ((0:Int),((0:Int),(0:Int))) _v2 (_v3).toNat).1,(((nth ((0:Int),((0:Int),(0:Int))) _v2 (_v3).toNat).2).1,((nth ((0:Int),((0:Int),(0:Int))) _v2 (_v3).toNat).2).2)))) then (some (false,())) else (_kn5 ((_v1,_v2),(IntKind.i64.wrap (_v3+(1:Int)))))) else none) else none) else (_k4 ()))
def ref_BagsSame_3(_N:Nat)(_x1:List Yb)(_x2:List Yb):Option Rt_ref_BagsSame:=
 (bif ((_x1.length:Int) != (_x2.length:Int)) then (some (false,())) else (joinD (fun (_s:Unit)=>ref_BagsSame_1 _N) fun _k4=>(loopE (fun (_c:(List Yb)×(List Yb)) (_s:Int) _kn=>ref_BagsSame_2 _N _k4 _c.1 _c.2 _s _kn) _N (_x1,_x2) (0:Int))))
def D_ref_BagsSame(_N:Nat)(_x:Dens Ks_ref_BagsSame):Option Rt_ref_BagsSame:=ref_BagsSame_3 _N _x.1 _x.2.1
theorem sp_ref_BagsSame(_N:Nat):SpecD Try.prog [] 33 Ks_ref_BagsSame Rk_ref_BagsSame (D_ref_BagsSame _N):=mkSpD (fn:=Try.f33) (c:=bodyOf Try.f33) (C:=C_ref_BagsSame _N)
  (a:=.two .none (.two .none (.join 0 ⟨[],[]⟩ (.two .none (.one (.loop 0 ⟨[(0,.sl Si),(1,.sl Si),(5,.int .i64)],[]⟩ [2] (.two .none (.two (.one (.two (.draw 0 [.pure,.pure,.pure,.pure,.pure,.pure,.pure,.pure,.pure]) .none)) .none))))) .none)))
  (by kernel_rfl) rfl (by kernel_rfl) (by kernel_rfl) ⟨rfl,by unfold TOk;kernel_rfl,gOk_of rfl rfl (zH _),iOk_of rfl rfl (zH _),rfl⟩ (fun _x=>by kernel_rfl)
theorem en_ref_BagsSame(_N:Nat):EntOk Try.prog [] (mkP 33 Ks_ref_BagsSame Rk_ref_BagsSame (D_ref_BagsSame _N)):=entP ⟨Try.f33,bodyOf Try.f33,by kernel_rfl,by kernel_rfl,rfl⟩ (by kernel_rfl) (sp_ref_BagsSame _N)
abbrev Ks_keep_same:List Kd:=[.dat (.sl Si),.dat (.int .i64),.dat (.sl Si),.dat (.int .i64)]
abbrev Rk_keep_same:List Kd:=[.dat (.bool)]
abbrev Rt_keep_same:Type:=Dens Rk_keep_same
def C_keep_same(_N:Nat):Ctx:={ T:=[],G:=findE [mkP 33 Ks_ref_BagsSame Rk_ref_BagsSame (D_ref_BagsSame _N)],I:=findI [],N:=_N,n:=17,fx:=[],fl:=0,gs:=[] }
def keep_same_1(_N:Nat)(_x1:List Yb)(_x2:Int)(_x3:List Yb)(_x4:Int):Option Rt_keep_same:=
 (bif (_x2==_x4) then ((D_ref_BagsSame _N (_x1,_x3,())).bind fun _y2=>(some (_y2.1,()))) else (some (false,())))
def D_keep_same(_N:Nat)(_x:Dens Ks_keep_same):Option Rt_keep_same:=keep_same_1 _N _x.1 _x.2.1 _x.2.2.1 _x.2.2.2.1
theorem sp_keep_same(_N:Nat):SpecD Try.prog [] 16 Ks_keep_same Rk_keep_same (D_keep_same _N):=mkSpD (fn:=Try.f16) (c:=bodyOf Try.f16) (C:=C_keep_same _N)
  (a:=.none)
  (by kernel_rfl) rfl (by kernel_rfl) (by kernel_rfl) ⟨rfl,by unfold TOk;kernel_rfl,gOk_of rfl rfl (zR.2 ⟨en_ref_BagsSame _N,(zH _)⟩),iOk_of rfl rfl (zH _),rfl⟩ (fun _x=>by kernel_rfl)
theorem en_keep_same(_N:Nat):EntOk Try.prog [] (mkP 16 Ks_keep_same Rk_keep_same (D_keep_same _N)):=entP ⟨Try.f16,bodyOf Try.f16,by kernel_rfl,by kernel_rfl,rfl⟩ (by kernel_rfl) (sp_keep_same _N)
end Go.Proofs.Ytcjecibocjbdmaa
end
