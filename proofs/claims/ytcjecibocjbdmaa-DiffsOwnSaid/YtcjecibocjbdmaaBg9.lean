import Derived.Test.YtcjecibocjbdmaaAbsSubF
import Derived.Test.YtcjecibocjbdmaaAbsRo
import Derived.Test.YtcjecibocjbdmaaAbsSort
import Derived.Test.YtcjecibocjbdmaaAbsOrd
import Derived.Test.YtcjecibocjbdmaaAbsLat
import Derived.Test.YtcjecibocjbdmaaProg
import Derived.Shelf.SlGeneric
import Derived.Ground.SlsfProg
import Derived.KernelRfl
noncomputable section
namespace Go.Proofs.Ytcjecibocjbdmaa
open Go.Abs
abbrev Si:Sh:=.pair (.int .i64) (.int .i64)
abbrev Yc:Type:=Int×(Int×Int)×Int
abbrev Yb:Type:=Int×Int×Int
abbrev Ya:Type:=Int×List (Int×(Int×Int)×Int)
def bodyOf(f:Func):Code:=f.body.getD .skip
abbrev Ks_cmp_isNaN_int64:List Kd:=[.dat (.int .i64)]
abbrev Rk_cmp_isNaN_int64:List Kd:=[.dat (.bool)]
abbrev Rt_cmp_isNaN_int64:Type:=Dens Rk_cmp_isNaN_int64
def C_cmp_isNaN_int64(_N:Nat):Ctx:={ T:=[],G:=findE [],I:=findI [],N:=_N,n:=6,fx:=[],fl:=0,gs:=[] }
def cmp_isNaN_int64_1(_N:Nat)(_x1:Int):Option Rt_cmp_isNaN_int64:=
 (some ((_x1 != _x1),()))
def D_cmp_isNaN_int64(_N:Nat)(_x:Dens Ks_cmp_isNaN_int64):Option Rt_cmp_isNaN_int64:=cmp_isNaN_int64_1 _N _x.1
theorem sp_cmp_isNaN_int64(_N:Nat):SpecD Try.prog [] 75 Ks_cmp_isNaN_int64 Rk_cmp_isNaN_int64 (D_cmp_isNaN_int64 _N):=mkSpD (fn:=Try.f75) (c:=bodyOf Try.f75) (C:=C_cmp_isNaN_int64 _N)
  (a:=.none)
  (by kernel_rfl) rfl (by kernel_rfl) (by kernel_rfl) ⟨rfl,by unfold TOk;kernel_rfl,gOk_of rfl rfl (zH _),iOk_of rfl rfl (zH _),rfl⟩ (fun _x=>by kernel_rfl)
theorem en_cmp_isNaN_int64(_N:Nat):EntOk Try.prog [] (mkP 75 Ks_cmp_isNaN_int64 Rk_cmp_isNaN_int64 (D_cmp_isNaN_int64 _N)):=entP ⟨Try.f75,bodyOf Try.f75,by kernel_rfl,by kernel_rfl,rfl⟩ (by kernel_rfl) (sp_cmp_isNaN_int64 _N)
abbrev Ks_cmp_Compare_int64:List Kd:=[.dat (.int .i64),.dat (.int .i64)]
abbrev Rk_cmp_Compare_int64:List Kd:=[.dat (.int .i64)]
abbrev Rt_cmp_Compare_int64:Type:=Dens Rk_cmp_Compare_int64
def C_cmp_Compare_int64(_N:Nat):Ctx:={ T:=[],G:=findE [mkP 75 Ks_cmp_isNaN_int64 Rk_cmp_isNaN_int64 (D_cmp_isNaN_int64 _N)],I:=findI [],N:=_N,n:=20,fx:=[],fl:=0,gs:=[] }
def cmp_Compare_int64_1(_N:Nat)(_x1:Int)(_x2:Int):Option Rt_cmp_Compare_int64:=
 ((D_cmp_isNaN_int64 _N (_x1,())).bind fun _y3=>((D_cmp_isNaN_int64 _N (_x2,())).bind fun _y4=>(bif _y3.1 then (bif _y4.1 then (some ((0:Int),())) else (some ((-1:Int),()))) else (bif _y4.1 then (some ((1:Int),())) else (bif (decide (_x1<_x2)) then (some ((-1:Int),())) else (bif (decide (_x1>_x2)) then (some ((1:Int),())) else (some ((0:Int),()))))))))
def D_cmp_Compare_int64(_N:Nat)(_x:Dens Ks_cmp_Compare_int64):Option Rt_cmp_Compare_int64:=cmp_Compare_int64_1 _N _x.1 _x.2.1
theorem sp_cmp_Compare_int64(_N:Nat):SpecD Try.prog [] 50 Ks_cmp_Compare_int64 Rk_cmp_Compare_int64 (D_cmp_Compare_int64 _N):=mkSpD (fn:=Try.f50) (c:=bodyOf Try.f50) (C:=C_cmp_Compare_int64 _N)
  (a:=.none)
  (by kernel_rfl) rfl (by kernel_rfl) (by kernel_rfl) ⟨rfl,by unfold TOk;kernel_rfl,gOk_of rfl rfl (zY.2 ⟨en_cmp_isNaN_int64 _N,(zH _)⟩),iOk_of rfl rfl (zH _),rfl⟩ (fun _x=>by kernel_rfl)
theorem en_cmp_Compare_int64(_N:Nat):EntOk Try.prog [] (mkP 50 Ks_cmp_Compare_int64 Rk_cmp_Compare_int64 (D_cmp_Compare_int64 _N)):=entP ⟨Try.f50,bodyOf Try.f50,by kernel_rfl,by kernel_rfl,rfl⟩ (by kernel_rfl) (sp_cmp_Compare_int64 _N)
abbrev Ks_cmp_Or_int:List Kd:=[.dat (.sl (.int .i64))]
abbrev Rk_cmp_Or_int:List Kd:=[.dat (.int .i64)]
abbrev Rt_cmp_Or_int:Type:=Dens Rk_cmp_Or_int
def C_cmp_Or_int(_N:Nat):Ctx:={ T:=[(3,⟨.int .i64,1,8,some (.int .i64),[.int .i64 (0:Int)],false,[]⟩),(48,⟨.slice 3,1,24,some (.sl (.int .i64)),[.nil],false,[]⟩)],G:=findE [],I:=findI [],N:=_N,n:=18,fx:=[],fl:=0,gs:=[] }
def cmp_Or_int_1(_N:Nat)(_v5:Int):Option Rt_cmp_Or_int:=
 (some (_v5,()))
def cmp_Or_int_2(_N:Nat)(_k6:Int->Option Rt_cmp_Or_int)(_v1:Int)(_v2:List Int)(_v3:Int)(_v4:Int)(_kn7:(Int×List Int×Int)×Int->Option Rt_cmp_Or_int):Option Rt_cmp_Or_int:=
 (bif (decide (_v4<_v3)) then (bif (decide (0<=_v4)&&decide (_v4<(_v2.length:Int))) then (bif ((nth (0:Int) _v2 (_v4).toNat) != _v1) then (some ((nth (0:Int) _v2 (_v4).toNat),())) else (_kn7 ((_v1,_v2,_v3),(IntKind.i64.wrap (_v4+(1:Int)))))) else none) else (_k6 _v1))
def cmp_Or_int_3(_N:Nat)(_x1:List Int):Option Rt_cmp_Or_int:=
 (joinD (fun (_s:Int)=>cmp_Or_int_1 _N _s) fun _k6=>(loopE (fun (_c:Int×List Int×Int) (_s:Int) _kn=>cmp_Or_int_2 _N _k6 _c.1 _c.2.1 _c.2.2 _s _kn) _N ((0:Int),_x1,(_x1.length:Int)) (0:Int)))
def D_cmp_Or_int(_N:Nat)(_x:Dens Ks_cmp_Or_int):Option Rt_cmp_Or_int:=cmp_Or_int_3 _N _x.1
theorem sp_cmp_Or_int(_N:Nat):SpecD Try.prog [] 49 Ks_cmp_Or_int Rk_cmp_Or_int (D_cmp_Or_int _N):=mkSpD (fn:=Try.f49) (c:=bodyOf Try.f49) (C:=C_cmp_Or_int _N)
  (a:=.two .none (.two .none (.join 0 ⟨[(3,.int .i64)],[]⟩ (.two .none (.one (.loop 0 ⟨[(3,.int .i64),(6,.sl (.int .i64)),(7,.int .i64),(8,.int .i64)],[]⟩ [3] .none))) .none)))
  (by kernel_rfl) rfl (by kernel_rfl) (by kernel_rfl) ⟨rfl,by unfold TOk;kernel_rfl,gOk_of rfl rfl (zH _),iOk_of rfl rfl (zH _),rfl⟩ (fun _x=>by kernel_rfl)
theorem en_cmp_Or_int(_N:Nat):EntOk Try.prog [] (mkP 49 Ks_cmp_Or_int Rk_cmp_Or_int (D_cmp_Or_int _N)):=entP ⟨Try.f49,bodyOf Try.f49,by kernel_rfl,by kernel_rfl,rfl⟩ (by kernel_rfl) (sp_cmp_Or_int _N)
abbrev Ks_bags_Bag_Rows_c1:List Kd:=[.dat (.pair (.int .i64) Si),.dat (.pair (.int .i64) Si)]
abbrev Rk_bags_Bag_Rows_c1:List Kd:=[.dat (.int .i64)]
abbrev Rt_bags_Bag_Rows_c1:Type:=Dens Rk_bags_Bag_Rows_c1
def C_bags_Bag_Rows_c1(_N:Nat):Ctx:={ T:=[(2,⟨.int .i64,1,8,some (.int .i64),[.int .i64 (0:Int)],false,[]⟩),(3,⟨.int .i64,1,8,some (.int .i64),[.int .i64 (0:Int)],false,[]⟩),(41,⟨.struct [(0,2),(1,2),(2,2)],3,24,some (.pair (.int .i64) Si),[.int .i64 (0:Int),.int .i64 (0:Int),.int .i64 (0:Int)],true,[]⟩),(48,⟨.slice 3,1,24,some (.sl (.int .i64)),[.nil],false,[]⟩)],G:=findE [mkP 50 Ks_cmp_Compare_int64 Rk_cmp_Compare_int64 (D_cmp_Compare_int64 _N),mkP 49 Ks_cmp_Or_int Rk_cmp_Or_int (D_cmp_Or_int _N)],I:=findI [],N:=_N,n:=17,fx:=[],fl:=0,gs:=[] }
def bags_Bag_Rows_c1_1(_N:Nat)(_x1:Int×Int×Int)(_x2:Int×Int×Int):Option Rt_bags_Bag_Rows_c1:=
 ((D_cmp_Compare_int64 _N (_x1.1,_x2.1,())).bind fun _y4=>((D_cmp_Compare_int64 _N (_x1.2.1,_x2.2.1,())).bind fun _y5=>((D_cmp_Or_int _N ([_y4.1,_y5.1],())).bind fun _y6=>(some (_y6.1,())))))
def D_bags_Bag_Rows_c1(_N:Nat)(_x:Dens Ks_bags_Bag_Rows_c1):Option Rt_bags_Bag_Rows_c1:=bags_Bag_Rows_c1_1 _N _x.1 _x.2.1
theorem sp_bags_Bag_Rows_c1(_N:Nat):SpecD Try.prog [] 48 Ks_bags_Bag_Rows_c1 Rk_bags_Bag_Rows_c1 (D_bags_Bag_Rows_c1 _N):=mkSpD (fn:=Try.f48) (c:=bodyOf Try.f48) (C:=C_bags_Bag_Rows_c1 _N)
  (a:=.two .none (.two (.draw 1 [.pure,.rd [0],.pure,.rd [1],.pure,.pure,.rd [0],.pure,.rd [1],.pure,.new 2,.rd [2],.pure]) .none))
  (by kernel_rfl) rfl (by kernel_rfl) (by kernel_rfl) ⟨rfl,by unfold TOk;kernel_rfl,gOk_of rfl rfl (zY.2 ⟨en_cmp_Compare_int64 _N,(zY.2 ⟨en_cmp_Or_int _N,(zH _)⟩)⟩),iOk_of rfl rfl (zH _),rfl⟩ (fun _x=>by kernel_rfl)
shelf_lay_g SlLaysF0.n6 Slsf 6 at Try 47 as lay_sortRow
theorem hb_sortRow:HasBody Try.prog 47:=⟨Try.f47,bodyOf Try.f47,by kernel_rfl,by kernel_rfl,rfl⟩
theorem hg_sortRow:HasBody Try.prog 48:=⟨Try.f48,bodyOf Try.f48,by kernel_rfl,by kernel_rfl,rfl⟩
theorem en_sortRow(_N:Nat):EntOk Try.prog [] (mkS 47 41 (.pair (.int .i64) Si) 48 (fun p q=>(D_bags_Bag_Rows_c1 _N (p,q,())).map (·.1))):=entSK lay_sortRow Try.isAgg41 Try.sizeOf41 hb_sortRow hg_sortRow (by kernel_rfl) rfl (sp_bags_Bag_Rows_c1 _N)
abbrev Sg_bags_Bag_Rows_h:Sig:=⟨[.form (.ptr 0 1000000)],[.oth false ⟨false,105,2,.pair (.int .i64) (.int .i64),.int .i64,false⟩],
 [.dat false (.sl (.pair (.int .i64) Si))],[.oth true ⟨false,105,2,.pair (.int .i64) (.int .i64),.int .i64,false⟩],[]⟩
abbrev Rt_bags_Bag_Rows_h:Type:=(List Yb)×Ya
def C_bags_Bag_Rows_h(_N:Nat):Ctx:={ T:=[(2,⟨.int .i64,1,8,some (.int .i64),[.int .i64 (0:Int)],false,[]⟩),(36,⟨.slice 41,1,24,some (.sl (.pair (.int .i64) Si)),[.nil],false,[]⟩),(41,⟨.struct [(0,2),(1,2),(2,2)],3,24,some (.pair (.int .i64) Si),[.int .i64 (0:Int),.int .i64 (0:Int),.int .i64 (0:Int)],true,[]⟩),(78,⟨.map 105 2 Si (.int .i64),1,8,none,[.nl .map],false,[]⟩),(105,⟨.struct [(0,2),(1,2)],2,16,some Si,[.int .i64 (0:Int),.int .i64 (0:Int)],true,[]⟩)],G:=findE [mkS 47 41 (.pair (.int .i64) Si) 48 (fun p q=>(D_bags_Bag_Rows_c1 _N (p,q,())).map (·.1))],I:=findI [],N:=_N,n:=25,fx:=[2],fl:=1,gs:=[] }
def bags_Bag_Rows_h_1(_N:Nat)(_v10:Int×List Yc)(_v11:List Yb):Option Rt_bags_Bag_Rows_h:=
 ((sortR (fun p q=>(D_bags_Bag_Rows_c1 _N (p,q,())).map (·.1)) _v11).bind fun _y13=>(some (_y13,_v10)))
def bags_Bag_Rows_h_2(_N:Nat)(_k14:(Ya×(List Yb))->Option Rt_bags_Bag_Rows_h)(_v1:Int×List Yc)(_v2:Int×List Yc)(_v5:List Yb)(_kn15:Ya×(Ya×(List Yb))->Option Rt_bags_Bag_Rows_h):Option Rt_bags_Bag_Rows_h:=
 (nextE (k:=.pair (.int .i64) (.int .i64)) (v:=.int .i64) _v2 (_k14 (_v1,_v5)) (fun _y16=>fun _y17=>(bif (decide ((_v5.length+([(_y16.2.1.1,(_y16.2.1.2,_y16.2.2))]).length)*24<=140737488355328)&&Nat.ble 1 24) then (_kn15 (_v1,(((1:Int),_y16 :: _y17),(_v5 ++ [(_y16.2.1.1,(_y16.2.1.2,_y16.2.2))])))) else none)))
def bags_Bag_Rows_h_3(_N:Nat)(_x1:Int×List Yc):Option Rt_bags_Bag_Rows_h:=
 (joinD (fun (_s:Ya×(List Yb))=>bags_Bag_Rows_h_1 _N _s.1 _s.2) fun _k14=>(loopE (fun (_c:Ya) (_s:Ya×(List Yb)) _kn=>bags_Bag_Rows_h_2 _N _k14 _c _s.1 _s.2 _kn) _N _x1 (((0:Int),_x1.2),[])))
def D_bags_Bag_Rows_h(_N:Nat)(_x:Ya):Option Rt_bags_Bag_Rows_h:=bags_Bag_Rows_h_3 _N _x
theorem sp_bags_Bag_Rows_h(_N:Nat):SpecH Try.prog [] 31 Sg_bags_Bag_Rows_h (D_bags_Bag_Rows_h _N):=mkSpH (fn:=Try.f31) (c:=bodyOf Try.f31) (C:=(C_bags_Bag_Rows_h _N))
  (a:=.two .none (.two .none (.join 3 ⟨[(3,.slc 2 0)],[.oth true ⟨false,105,2,.pair (.int .i64) (.int .i64),.int .i64,false⟩,.none,.row false 0 41 (.pair (.int .i64) Si)]⟩ (.two .none (.one (.obj 3 41 (.pair (.int .i64) Si) (.loop 3 ⟨[(3,.slc 2 0),(7,.ptr 1 1000000)],[.oth true ⟨false,105,2,.pair (.int .i64) (.int .i64),.int .i64,false⟩,.oth false ⟨true,105,2,.pair (.int .i64) (.int .i64),.int .i64,false⟩,.row false 0 41 (.pair (.int .i64) Si)]⟩ [1,2] (.two .nx .none))))) .none)))
  (by kernel_rfl) rfl (by kernel_rfl) (by kernel_rfl) (by kernel_rfl) rfl ⟨rfl,by unfold TOk;kernel_rfl,gOk_of rfl rfl (zY.2 ⟨en_sortRow _N,(zH _)⟩),iOk_of rfl rfl (zH _),rfl⟩ (fun _x=>by kernel_rfl)
abbrev Q_bags_Rows:Oth:=⟨false,105,2,.pair (.int .i64) (.int .i64),.int .i64,false⟩
theorem en_bags_Rows(N:Nat):EntOk Try.prog [] (mkRo 31 ⟨false,105,2,.pair (.int .i64) (.int .i64),.int .i64,false⟩ (.sl (.pair (.int .i64) Si)) (D_bags_Bag_Rows_h N)):=entRo ⟨Try.f31,bodyOf Try.f31,by kernel_rfl,by kernel_rfl,rfl⟩ rfl (by kernel_rfl) (by kernel_rfl) (by kernel_rfl) (by kernel_rfl) (sp_bags_Bag_Rows_h N)
abbrev Sg_bags_Bag_Add_h:Sig:=⟨[.form (.ptr 0 1000000),.dat false Si,.dat false (.int .i64)],[.oth false ⟨false,105,2,.pair (.int .i64) (.int .i64),.int .i64,false⟩],
 [],[.oth false ⟨false,105,2,.pair (.int .i64) (.int .i64),.int .i64,false⟩],[]⟩
abbrev Rt_bags_Bag_Add_h:Type:=Ya
def C_bags_Bag_Add_h(_N:Nat):Ctx:={ T:=[(78,⟨.map 105 2 Si (.int .i64),1,8,none,[.nl .map],false,[]⟩),(105,⟨.struct [(0,2),(1,2)],2,16,some Si,[.int .i64 (0:Int),.int .i64 (0:Int)],true,[]⟩)],G:=findE [],I:=findI [],N:=_N,n:=19,fx:=[],fl:=1,gs:=[] }
def bags_Bag_Add_h_1(_N:Nat)(_x1:Int×Int)(_x2:Int)(_x3:Int×List Yc):Option Rt_bags_Bag_Add_h:=
 (bif (mpStands Si (.int .i64) (mpEnt Si (.int .i64) _x3 (_x1.1,_x1.2)) (mpWhen Si (.int .i64) _x3 (_x1.1,_x1.2))) then (bif ((mpGet Si (.int .i64) (mpAt Si (.int .i64) (mpEnt Si (.int .i64) _x3 (_x1.1,_x1.2)) (mpWhen Si (.int .i64) _x3 (_x1.1,_x1.2)) (IntKind.i64.wrap ((mpGet Si (.int .i64) _x3 (_x1.1,_x1.2))+_x2))) (_x1.1,_x1.2))==(0:Int)) then (some (mpDel Si (.int .i64) (mpAt Si (.int .i64) (mpEnt Si (.int .i64) _x3 (_x1.1,_x1.2)) (mpWhen Si (.int .i64) _x3 (_x1.1,_x1.2)) (IntKind.i64.wrap ((mpGet Si (.int .i64) _x3 (_x1.1,_x1.2))+_x2))) (_x1.1,_x1.2))) else (some (mpAt Si (.int .i64) (mpEnt Si (.int .i64) _x3 (_x1.1,_x1.2)) (mpWhen Si (.int .i64) _x3 (_x1.1,_x1.2)) (IntKind.i64.wrap ((mpGet Si (.int .i64) _x3 (_x1.1,_x1.2))+_x2))))) else none)
def D_bags_Bag_Add_h(_N:Nat)(_x:(Int×Int)×Int×Ya):Option Rt_bags_Bag_Add_h:=bags_Bag_Add_h_1 _N _x.1 _x.2.1 _x.2.2
theorem sp_bags_Bag_Add_h(_N:Nat):SpecH Try.prog [] 46 Sg_bags_Bag_Add_h (D_bags_Bag_Add_h _N):=mkSpH (fn:=Try.f46) (c:=bodyOf Try.f46) (C:=(C_bags_Bag_Add_h _N))
  (a:=.two .none (.two (.draw 0 [.pure,.rd [1],.rd [0],.pure,.pure,.wr [0],.pure,.wr [0]]) .none))
  (by kernel_rfl) rfl (by kernel_rfl) (by kernel_rfl) (by kernel_rfl) rfl ⟨rfl,by unfold TOk;kernel_rfl,gOk_of rfl rfl (zH _),iOk_of rfl rfl (zH _),rfl⟩ (fun _x=>by kernel_rfl)
theorem en_bags_Bag_Add_h(_N:Nat):EntOk Try.prog [] (mkHe 46 Sg_bags_Bag_Add_h (D_bags_Bag_Add_h _N)):=entH ⟨Try.f46,bodyOf Try.f46,by kernel_rfl,by kernel_rfl,rfl⟩ (sp_bags_Bag_Add_h _N)
abbrev Sg_bags_Bag_Pour_h:Sig:=⟨[.form (.ptr 0 1000000),.dat false (.sl (.pair (.int .i64) Si)),.dat false (.int .i64)],[.oth false ⟨false,105,2,.pair (.int .i64) (.int .i64),.int .i64,false⟩],
 [],[.oth false ⟨false,105,2,.pair (.int .i64) (.int .i64),.int .i64,false⟩],[]⟩
abbrev Rt_bags_Bag_Pour_h:Type:=Ya
def C_bags_Bag_Pour_h(_N:Nat):Ctx:={ T:=[(2,⟨.int .i64,1,8,some (.int .i64),[.int .i64 (0:Int)],false,[]⟩),(36,⟨.slice 41,1,24,some (.sl (.pair (.int .i64) Si)),[.nil],false,[]⟩),(41,⟨.struct [(0,2),(1,2),(2,2)],3,24,some (.pair (.int .i64) Si),[.int .i64 (0:Int),.int .i64 (0:Int),.int .i64 (0:Int)],true,[]⟩),(105,⟨.struct [(0,2),(1,2)],2,16,some Si,[.int .i64 (0:Int),.int .i64 (0:Int)],true,[]⟩)],G:=findE [mkHe 46 Sg_bags_Bag_Add_h (D_bags_Bag_Add_h _N)],I:=findI [],N:=_N,n:=26,fx:=[],fl:=1,gs:=[] }
def bags_Bag_Pour_h_1(_N:Nat)(_v1:Int)(_v2:List Yb)(_v3:Int)(_v4:Int)(_v5:Int×List Yc)(_kn8:(Int×(List Yb)×Int)×(Int×Ya)->Option Rt_bags_Bag_Pour_h):Option Rt_bags_Bag_Pour_h:=
 (bif (decide (_v4<_v3)) then (bif (decide (0<=_v4)&&decide (_v4<(_v2.length:Int))) then ((D_bags_Bag_Add_h _N (((nth ((0:Int),((0:Int),(0:Int))) _v2 (_v4).toNat).1,((nth ((0:Int),((0:Int),(0:Int))) _v2 (_v4).toNat).2).1),(IntKind.i64.wrap (_v1*(((nth ((0:Int),((0:Int),(0:Int))) _v2 (_v4).toNat).2).2))),_v5)).bind fun _y9=>(_kn8 ((_v1,_v2,_v3),((IntKind.i64.wrap (_v4+(1:Int))),_y9)))) else none) else (some _v5))
def bags_Bag_Pour_h_2(_N:Nat)(_x1:List Yb)(_x2:Int)(_x3:Int×List Yc):Option Rt_bags_Bag_Pour_h:=
 (loopE (fun (_c:Int×(List Yb)×Int) (_s:Int×Ya) _kn=>bags_Bag_Pour_h_1 _N _c.1 _c.2.1 _c.2.2 _s.1 _s.2 _kn) _N (_x2,_x1,(_x1.length:Int)) ((0:Int),_x3))
def D_bags_Bag_Pour_h(_N:Nat)(_x:(List Yb)×Int×Ya):Option Rt_bags_Bag_Pour_h:=bags_Bag_Pour_h_2 _N _x.1 _x.2.1 _x.2.2
theorem sp_bags_Bag_Pour_h(_N:Nat):SpecH Try.prog [] 51 Sg_bags_Bag_Pour_h (D_bags_Bag_Pour_h _N):=mkSpH (fn:=Try.f51) (c:=bodyOf Try.f51) (C:=(C_bags_Bag_Pour_h _N))
  (a:=.two .none (.one (.loop 1 ⟨[(0,.ptr 0 1000000),(2,.int .i64),(8,.sl (.pair (.int .i64) Si)),(9,.int .i64),(10,.int .i64)],[.oth false ⟨false,105,2,.pair (.int .i64) (.int .i64),.int .i64,false⟩]⟩ [3,4] .none)))
  (by kernel_rfl) rfl (by kernel_rfl) (by kernel_rfl) (by kernel_rfl) rfl ⟨rfl,by unfold TOk;kernel_rfl,gOk_of rfl rfl (zY.2 ⟨en_bags_Bag_Add_h _N,(zH _)⟩),iOk_of rfl rfl (zH _),rfl⟩ (fun _x=>by kernel_rfl)
theorem en_bags_Bag_Pour_h(_N:Nat):EntOk Try.prog [] (mkHe 51 Sg_bags_Bag_Pour_h (D_bags_Bag_Pour_h _N)):=entH ⟨Try.f51,bodyOf Try.f51,by kernel_rfl,by kernel_rfl,rfl⟩ (sp_bags_Bag_Pour_h _N)
abbrev Ks_ref_BagsSame:List Kd:=[.dat (.sl (.pair (.int .i64) Si)),.dat (.sl (.pair (.int .i64) Si))]
abbrev Rk_ref_BagsSame:List Kd:=[.dat (.bool)]
abbrev Rt_ref_BagsSame:Type:=Dens Rk_ref_BagsSame
def C_ref_BagsSame(_N:Nat):Ctx:={ T:=[(36,⟨.slice 41,1,24,some (.sl (.pair (.int .i64) Si)),[.nil],false,[]⟩),(41,⟨.struct [(0,2),(1,2),(2,2)],3,24,some (.pair (.int .i64) Si),[.int .i64 (0:Int),.int .i64 (0:Int),.int .i64 (0:Int)],true,[]⟩)],G:=findE [],I:=findI [],N:=_N,n:=26,fx:=[],fl:=0,gs:=[] }
def ref_BagsSame_1(_N:Nat):Option Rt_ref_BagsSame:=
 (some (true,()))
def ref_BagsSame_2(_N:Nat)(_k4:Unit->Option Rt_ref_BagsSame)(_v1:List Yb)(_v2:List Yb)(_v3:Int)(_kn5:((List Yb)×(List Yb))×Int->Option Rt_ref_BagsSame):Option Rt_ref_BagsSame:=
 (bif (decide (_v3<(_v1.length:Int))) then (bif (decide (0<=_v3)&&decide (_v3<(_v1.length:Int))) then (bif (decide (0<=_v3)&&decide (_v3<(_v2.length:Int))) then (bif (!(eqD (.pair (.int .i64) Si) ((nth ((0:Int),((0:Int),(0:Int))) _v1 (_v3).toNat).1,(((nth ((0:Int),((0:Int),(0:Int))) _v1 (_v3).toNat).2).1,((nth ((0:Int),((0:Int),(0:Int))) _v1 (_v3).toNat).2).2)) ((nth ((0:Int),((0:Int),(0:Int))) _v2 (_v3).toNat).1,(((nth ((0:Int),((0:Int),(0:Int))) _v2 (_v3).toNat).2).1,((nth ((0:Int),((0:Int),(0:Int))) _v2 (_v3).toNat).2).2)))) then (some (false,())) else (_kn5 ((_v1,_v2),(IntKind.i64.wrap (_v3+(1:Int)))))) else none) else none) else (_k4 ()))
def ref_BagsSame_3(_N:Nat)(_x1:List Yb)(_x2:List Yb):Option Rt_ref_BagsSame:=
 (bif ((_x1.length:Int) != (_x2.length:Int)) then (some (false,())) else (joinD (fun (_s:Unit)=>ref_BagsSame_1 _N) fun _k4=>(loopE (fun (_c:(List Yb)×(List Yb)) (_s:Int) _kn=>ref_BagsSame_2 _N _k4 _c.1 _c.2 _s _kn) _N (_x1,_x2) (0:Int))))
def D_ref_BagsSame(_N:Nat)(_x:Dens Ks_ref_BagsSame):Option Rt_ref_BagsSame:=ref_BagsSame_3 _N _x.1 _x.2.1
theorem sp_ref_BagsSame(_N:Nat):SpecD Try.prog [] 33 Ks_ref_BagsSame Rk_ref_BagsSame (D_ref_BagsSame _N):=mkSpD (fn:=Try.f33) (c:=bodyOf Try.f33) (C:=C_ref_BagsSame _N)
  (a:=.two .none (.two .none (.join 0 ⟨[],[]⟩ (.two .none (.one (.loop 0 ⟨[(0,.sl (.pair (.int .i64) Si)),(1,.sl (.pair (.int .i64) Si)),(5,.int .i64)],[]⟩ [2] (.two .none (.two (.one (.two (.draw 0 [.pure,.pure,.pure,.pure,.pure,.pure,.pure,.pure,.pure]) .none)) .none))))) .none)))
  (by kernel_rfl) rfl (by kernel_rfl) (by kernel_rfl) ⟨rfl,by unfold TOk;kernel_rfl,gOk_of rfl rfl (zH _),iOk_of rfl rfl (zH _),rfl⟩ (fun _x=>by kernel_rfl)
theorem en_ref_BagsSame(_N:Nat):EntOk Try.prog [] (mkP 33 Ks_ref_BagsSame Rk_ref_BagsSame (D_ref_BagsSame _N)):=entP ⟨Try.f33,bodyOf Try.f33,by kernel_rfl,by kernel_rfl,rfl⟩ (by kernel_rfl) (sp_ref_BagsSame _N)
abbrev Ks_keep_total:List Kd:=[.dat (.sl (.pair (.int .i64) Si))]
abbrev Rk_keep_total:List Kd:=[.dat (.int .i64)]
abbrev Rt_keep_total:Type:=Dens Rk_keep_total
def C_keep_total(_N:Nat):Ctx:={ T:=[(2,⟨.int .i64,1,8,some (.int .i64),[.int .i64 (0:Int)],false,[]⟩),(36,⟨.slice 41,1,24,some (.sl (.pair (.int .i64) Si)),[.nil],false,[]⟩),(41,⟨.struct [(0,2),(1,2),(2,2)],3,24,some (.pair (.int .i64) Si),[.int .i64 (0:Int),.int .i64 (0:Int),.int .i64 (0:Int)],true,[]⟩)],G:=findE [],I:=findI [],N:=_N,n:=18,fx:=[],fl:=0,gs:=[] }
def keep_total_1(_N:Nat)(_v5:Int):Option Rt_keep_total:=
 (some (_v5,()))
def keep_total_2(_N:Nat)(_k6:Int->Option Rt_keep_total)(_v2:List Yb)(_v3:Int)(_v1:Int)(_v4:Int)(_kn7:((List Yb)×Int)×(Int×Int)->Option Rt_keep_total):Option Rt_keep_total:=
 (bif (decide (_v4<_v3)) then (bif (decide (0<=_v4)&&decide (_v4<(_v2.length:Int))) then (_kn7 ((_v2,_v3),((IntKind.i64.wrap (_v1+(((nth ((0:Int),((0:Int),(0:Int))) _v2 (_v4).toNat).2).2))),(IntKind.i64.wrap (_v4+(1:Int)))))) else none) else (_k6 _v1))
def keep_total_3(_N:Nat)(_x1:List Yb):Option Rt_keep_total:=
 (joinD (fun (_s:Int)=>keep_total_1 _N _s) fun _k6=>(loopE (fun (_c:(List Yb)×Int) (_s:Int×Int) _kn=>keep_total_2 _N _k6 _c.1 _c.2 _s.1 _s.2 _kn) _N (_x1,(_x1.length:Int)) ((0:Int),(0:Int))))
def D_keep_total(_N:Nat)(_x:Dens Ks_keep_total):Option Rt_keep_total:=keep_total_3 _N _x.1
theorem sp_keep_total(_N:Nat):SpecD Try.prog [] 40 Ks_keep_total Rk_keep_total (D_keep_total _N):=mkSpD (fn:=Try.f40) (c:=bodyOf Try.f40) (C:=C_keep_total _N)
  (a:=.two .none (.two .none (.join 0 ⟨[(3,.int .i64)],[]⟩ (.two .none (.one (.loop 0 ⟨[(3,.int .i64),(6,.sl (.pair (.int .i64) Si)),(7,.int .i64),(8,.int .i64)],[]⟩ [0,3] .none))) .none)))
  (by kernel_rfl) rfl (by kernel_rfl) (by kernel_rfl) ⟨rfl,by unfold TOk;kernel_rfl,gOk_of rfl rfl (zH _),iOk_of rfl rfl (zH _),rfl⟩ (fun _x=>by kernel_rfl)
theorem en_keep_total(_N:Nat):EntOk Try.prog [] (mkP 40 Ks_keep_total Rk_keep_total (D_keep_total _N)):=entP ⟨Try.f40,bodyOf Try.f40,by kernel_rfl,by kernel_rfl,rfl⟩ (by kernel_rfl) (sp_keep_total _N)
end Go.Proofs.Ytcjecibocjbdmaa
end
