import Derived.Test.YtnhjpicdijeagaaDoorAbsSubF
import Derived.Test.YtnhjpicdijeagaaDoorAbsSort
import Derived.Test.YtnhjpicdijeagaaDoorAbsOrd
import Derived.Test.YtnhjpicdijeagaaDoorAbsLat
import Derived.Test.YtnhjpicdijeagaaDoorGhG
import Derived.Test.YtnhjpicdijeagaaDoorProg
import Derived.Shelf.SlGeneric
import Derived.Ground.SlsfProg
import Derived.KernelRfl
import Derived.Test.YtnhjpicdijeagaaDoorAbsMp
import Derived.Test.YtnhjpicdijeagaaDoorAbsFrag
import Derived.Test.YtnhjpicdijeagaaDoorAbsLp
import Derived.RangeFuncBox
import Derived.RangeFuncLeaves
import Derived.Shelf.Abstract
import Derived.WalkKit
import Derived.OwnWalkIn
import Derived.TacticsInMore
import Derived.LoopNIn
import Derived.LoopIn
import Derived.Sort.QuietIn
noncomputable section
namespace Go.Proofs.YtnhjpicdijeagaaDoor
open Go.Abs
abbrev Sr:Sh:=.pair (.int .i64) (.int .i64)
abbrev Yg:Type:=Int×(Int×Int)×Int
abbrev Yf:Type:=Int×Int×Int
abbrev Ye:Type:=Int×List (Int×(Int×Int)×Int)
abbrev Ks_cmp_isNaN_int64:List Kd:=[.dat (.int .i64)]
abbrev Rk_cmp_isNaN_int64:List Kd:=[.dat (.bool)]
abbrev Rt_cmp_isNaN_int64:Type:=Dens Rk_cmp_isNaN_int64
def C_cmp_isNaN_int64(_N:Nat):Ctx:={ T:=[],G:=findE [],I:=findI [],N:=_N,n:=6,fx:=[],fl:=0,gs:=Gs }
def cmp_isNaN_int64_1(_N:Nat)(_x1:Int):Option Rt_cmp_isNaN_int64:=
 (some ((_x1 != _x1),()))
def D_cmp_isNaN_int64(_N:Nat)(_x:Dens Ks_cmp_isNaN_int64):Option Rt_cmp_isNaN_int64:=cmp_isNaN_int64_1 _N _x.1
theorem sp_cmp_isNaN_int64(_N:Nat):SpecD Tryd.prog Gs 54 Ks_cmp_isNaN_int64 Rk_cmp_isNaN_int64 (D_cmp_isNaN_int64 _N):=mkSpD (fn:=Tryd.f54) (c:=bodyOf Tryd.f54) (C:=C_cmp_isNaN_int64 _N)
  (a:=.none)
  (by kernel_rfl) rfl (by kernel_rfl) (by kernel_rfl) ⟨rfl,by unfold TOk;kernel_rfl,gOk_of rfl rfl (zD _),iOk_of rfl rfl (zD _),rfl⟩ (fun _x=>by kernel_rfl)
theorem en_cmp_isNaN_int64(_N:Nat):EntOk Tryd.prog Gs (mkP 54 Ks_cmp_isNaN_int64 Rk_cmp_isNaN_int64 (D_cmp_isNaN_int64 _N)):=entP ⟨Tryd.f54,bodyOf Tryd.f54,by kernel_rfl,by kernel_rfl,rfl⟩ (by kernel_rfl) (sp_cmp_isNaN_int64 _N)
abbrev Ks_cmp_Compare_int64:List Kd:=[.dat (.int .i64),.dat (.int .i64)]
abbrev Rk_cmp_Compare_int64:List Kd:=[.dat (.int .i64)]
abbrev Rt_cmp_Compare_int64:Type:=Dens Rk_cmp_Compare_int64
def C_cmp_Compare_int64(_N:Nat):Ctx:={ T:=[],G:=findE [mkP 54 Ks_cmp_isNaN_int64 Rk_cmp_isNaN_int64 (D_cmp_isNaN_int64 _N)],I:=findI [],N:=_N,n:=20,fx:=[],fl:=0,gs:=Gs }
def cmp_Compare_int64_1(_N:Nat)(_x1:Int)(_x2:Int):Option Rt_cmp_Compare_int64:=
 ((D_cmp_isNaN_int64 _N (_x1,())).bind fun _y3=>((D_cmp_isNaN_int64 _N (_x2,())).bind fun _y4=>(bif _y3.1 then (bif _y4.1 then (some ((0:Int),())) else (some ((-1:Int),()))) else (bif _y4.1 then (some ((1:Int),())) else (bif (decide (_x1<_x2)) then (some ((-1:Int),())) else (bif (decide (_x1>_x2)) then (some ((1:Int),())) else (some ((0:Int),()))))))))
def D_cmp_Compare_int64(_N:Nat)(_x:Dens Ks_cmp_Compare_int64):Option Rt_cmp_Compare_int64:=cmp_Compare_int64_1 _N _x.1 _x.2.1
theorem sp_cmp_Compare_int64(_N:Nat):SpecD Tryd.prog Gs 35 Ks_cmp_Compare_int64 Rk_cmp_Compare_int64 (D_cmp_Compare_int64 _N):=mkSpD (fn:=Tryd.f35) (c:=bodyOf Tryd.f35) (C:=C_cmp_Compare_int64 _N)
  (a:=.none)
  (by kernel_rfl) rfl (by kernel_rfl) (by kernel_rfl) ⟨rfl,by unfold TOk;kernel_rfl,gOk_of rfl rfl (zI.2 ⟨en_cmp_isNaN_int64 _N,(zD _)⟩),iOk_of rfl rfl (zD _),rfl⟩ (fun _x=>by kernel_rfl)
theorem en_cmp_Compare_int64(_N:Nat):EntOk Tryd.prog Gs (mkP 35 Ks_cmp_Compare_int64 Rk_cmp_Compare_int64 (D_cmp_Compare_int64 _N)):=entP ⟨Tryd.f35,bodyOf Tryd.f35,by kernel_rfl,by kernel_rfl,rfl⟩ (by kernel_rfl) (sp_cmp_Compare_int64 _N)
abbrev Ks_cmp_Or_int:List Kd:=[.dat (.sl (.int .i64))]
abbrev Rk_cmp_Or_int:List Kd:=[.dat (.int .i64)]
abbrev Rt_cmp_Or_int:Type:=Dens Rk_cmp_Or_int
def C_cmp_Or_int(_N:Nat):Ctx:={ T:=[(3,⟨.int .i64,1,8,some (.int .i64),[.int .i64 (0:Int)],false,[]⟩),(28,⟨.slice 3,1,24,some (.sl (.int .i64)),[.nil],false,[]⟩)],G:=findE [],I:=findI [],N:=_N,n:=18,fx:=[],fl:=0,gs:=Gs }
def cmp_Or_int_1(_N:Nat)(_v5:Int):Option Rt_cmp_Or_int:=
 (some (_v5,()))
def cmp_Or_int_2(_N:Nat)(_k6:Int->Option Rt_cmp_Or_int)(_v1:Int)(_v2:List Int)(_v3:Int)(_v4:Int)(_kn7:(Int×List Int×Int)×Int->Option Rt_cmp_Or_int):Option Rt_cmp_Or_int:=
 (bif (decide (_v4<_v3)) then (bif (decide (0<=_v4)&&decide (_v4<(_v2.length:Int))) then (bif ((nth (0:Int) _v2 (_v4).toNat) != _v1) then (some ((nth (0:Int) _v2 (_v4).toNat),())) else (_kn7 ((_v1,_v2,_v3),(IntKind.i64.wrap (_v4+(1:Int)))))) else none) else (_k6 _v1))
def cmp_Or_int_3(_N:Nat)(_x1:List Int):Option Rt_cmp_Or_int:=
 (joinD (fun (_s:Int)=>cmp_Or_int_1 _N _s) fun _k6=>(loopE (fun (_c:Int×List Int×Int) (_s:Int) _kn=>cmp_Or_int_2 _N _k6 _c.1 _c.2.1 _c.2.2 _s _kn) _N ((0:Int),_x1,(_x1.length:Int)) (0:Int)))
def D_cmp_Or_int(_N:Nat)(_x:Dens Ks_cmp_Or_int):Option Rt_cmp_Or_int:=cmp_Or_int_3 _N _x.1
theorem sp_cmp_Or_int(_N:Nat):SpecD Tryd.prog Gs 34 Ks_cmp_Or_int Rk_cmp_Or_int (D_cmp_Or_int _N):=mkSpD (fn:=Tryd.f34) (c:=bodyOf Tryd.f34) (C:=C_cmp_Or_int _N)
  (a:=.two .none (.two .none (.join 0 ⟨[(3,.int .i64)],[]⟩ (.two .none (.one (.loop 0 ⟨[(3,.int .i64),(6,.sl (.int .i64)),(7,.int .i64),(8,.int .i64)],[]⟩ [3] .none))) .none)))
  (by kernel_rfl) rfl (by kernel_rfl) (by kernel_rfl) ⟨rfl,by unfold TOk;kernel_rfl,gOk_of rfl rfl (zD _),iOk_of rfl rfl (zD _),rfl⟩ (fun _x=>by kernel_rfl)
theorem en_cmp_Or_int(_N:Nat):EntOk Tryd.prog Gs (mkP 34 Ks_cmp_Or_int Rk_cmp_Or_int (D_cmp_Or_int _N)):=entP ⟨Tryd.f34,bodyOf Tryd.f34,by kernel_rfl,by kernel_rfl,rfl⟩ (by kernel_rfl) (sp_cmp_Or_int _N)
abbrev Ks_bags_Bag_Rows_c1:List Kd:=[.dat (.pair (.int .i64) Sr),.dat (.pair (.int .i64) Sr)]
abbrev Rk_bags_Bag_Rows_c1:List Kd:=[.dat (.int .i64)]
abbrev Rt_bags_Bag_Rows_c1:Type:=Dens Rk_bags_Bag_Rows_c1
def C_bags_Bag_Rows_c1(_N:Nat):Ctx:={ T:=[(2,⟨.int .i64,1,8,some (.int .i64),[.int .i64 (0:Int)],false,[]⟩),(3,⟨.int .i64,1,8,some (.int .i64),[.int .i64 (0:Int)],false,[]⟩),(28,⟨.slice 3,1,24,some (.sl (.int .i64)),[.nil],false,[]⟩),(69,⟨.struct [(0,2),(1,2),(2,2)],3,24,some (.pair (.int .i64) Sr),[.int .i64 (0:Int),.int .i64 (0:Int),.int .i64 (0:Int)],true,[]⟩)],G:=findE [mkP 35 Ks_cmp_Compare_int64 Rk_cmp_Compare_int64 (D_cmp_Compare_int64 _N),mkP 34 Ks_cmp_Or_int Rk_cmp_Or_int (D_cmp_Or_int _N)],I:=findI [],N:=_N,n:=17,fx:=[],fl:=0,gs:=Gs }
def bags_Bag_Rows_c1_1(_N:Nat)(_x1:Int×Int×Int)(_x2:Int×Int×Int):Option Rt_bags_Bag_Rows_c1:=
 ((D_cmp_Compare_int64 _N (_x1.1,_x2.1,())).bind fun _y4=>((D_cmp_Compare_int64 _N (_x1.2.1,_x2.2.1,())).bind fun _y5=>((D_cmp_Or_int _N ([_y4.1,_y5.1],())).bind fun _y6=>(some (_y6.1,())))))
def D_bags_Bag_Rows_c1(_N:Nat)(_x:Dens Ks_bags_Bag_Rows_c1):Option Rt_bags_Bag_Rows_c1:=bags_Bag_Rows_c1_1 _N _x.1 _x.2.1
theorem sp_bags_Bag_Rows_c1(_N:Nat):SpecD Tryd.prog Gs 33 Ks_bags_Bag_Rows_c1 Rk_bags_Bag_Rows_c1 (D_bags_Bag_Rows_c1 _N):=mkSpD (fn:=Tryd.f33) (c:=bodyOf Tryd.f33) (C:=C_bags_Bag_Rows_c1 _N)
  (a:=.two .none (.two (.draw 1 [.pure,.rd [0],.pure,.rd [1],.pure,.pure,.rd [0],.pure,.rd [1],.pure,.new 2,.rd [2],.pure]) .none))
  (by kernel_rfl) rfl (by kernel_rfl) (by kernel_rfl) ⟨rfl,by unfold TOk;kernel_rfl,gOk_of rfl rfl (zI.2 ⟨en_cmp_Compare_int64 _N,(zI.2 ⟨en_cmp_Or_int _N,(zD _)⟩)⟩),iOk_of rfl rfl (zD _),rfl⟩ (fun _x=>by kernel_rfl)
shelf_lay_g SlLaysF0.n6 Slsf 6 at Tryd 32 as lay_sortRow
theorem hb_sortRow:HasBody Tryd.prog 32:=⟨Tryd.f32,bodyOf Tryd.f32,by kernel_rfl,by kernel_rfl,rfl⟩
theorem hg_sortRow:HasBody Tryd.prog 33:=⟨Tryd.f33,bodyOf Tryd.f33,by kernel_rfl,by kernel_rfl,rfl⟩
theorem en_sortRow(_N:Nat):EntOk Tryd.prog Gs (mkS 32 69 (.pair (.int .i64) Sr) 33 (fun p q=>(D_bags_Bag_Rows_c1 _N (p,q,())).map (·.1))):=entSK lay_sortRow Tryd.isAgg69 Tryd.sizeOf69 hb_sortRow hg_sortRow (by kernel_rfl) rfl (sp_bags_Bag_Rows_c1 _N)
abbrev Sg_bags_Bag_Add_h:Sig:=⟨[.form (.ptr 0 1000000),.dat false Sr,.dat false (.int .i64)],[.oth false ⟨false,88,2,.pair (.int .i64) (.int .i64),.int .i64,false⟩],
 [],[.oth false ⟨false,88,2,.pair (.int .i64) (.int .i64),.int .i64,false⟩],[]⟩
abbrev Rt_bags_Bag_Add_h:Type:=Ye
def C_bags_Bag_Add_h(_N:Nat):Ctx:={ T:=[(60,⟨.map 88 2 Sr (.int .i64),1,8,none,[.nl .map],false,[]⟩),(88,⟨.struct [(0,2),(1,2)],2,16,some Sr,[.int .i64 (0:Int),.int .i64 (0:Int)],true,[]⟩)],G:=findE [],I:=findI [],N:=_N,n:=19,fx:=[],fl:=1,gs:=Gs }
def bags_Bag_Add_h_1(_N:Nat)(_x1:Int×Int)(_x2:Int)(_x3:Int×List Yg):Option Rt_bags_Bag_Add_h:=
 (bif (mpStands Sr (.int .i64) (mpEnt Sr (.int .i64) _x3 (_x1.1,_x1.2)) (mpWhen Sr (.int .i64) _x3 (_x1.1,_x1.2))) then (bif ((mpGet Sr (.int .i64) (mpAt Sr (.int .i64) (mpEnt Sr (.int .i64) _x3 (_x1.1,_x1.2)) (mpWhen Sr (.int .i64) _x3 (_x1.1,_x1.2)) (IntKind.i64.wrap ((mpGet Sr (.int .i64) _x3 (_x1.1,_x1.2))+_x2))) (_x1.1,_x1.2))==(0:Int)) then (some (mpDel Sr (.int .i64) (mpAt Sr (.int .i64) (mpEnt Sr (.int .i64) _x3 (_x1.1,_x1.2)) (mpWhen Sr (.int .i64) _x3 (_x1.1,_x1.2)) (IntKind.i64.wrap ((mpGet Sr (.int .i64) _x3 (_x1.1,_x1.2))+_x2))) (_x1.1,_x1.2))) else (some (mpAt Sr (.int .i64) (mpEnt Sr (.int .i64) _x3 (_x1.1,_x1.2)) (mpWhen Sr (.int .i64) _x3 (_x1.1,_x1.2)) (IntKind.i64.wrap ((mpGet Sr (.int .i64) _x3 (_x1.1,_x1.2))+_x2))))) else none)
def D_bags_Bag_Add_h(_N:Nat)(_x:(Int×Int)×Int×Ye):Option Rt_bags_Bag_Add_h:=bags_Bag_Add_h_1 _N _x.1 _x.2.1 _x.2.2
theorem sp_bags_Bag_Add_h(_N:Nat):SpecH Tryd.prog Gs 62 Sg_bags_Bag_Add_h (D_bags_Bag_Add_h _N):=mkSpH (fn:=Tryd.f62) (c:=bodyOf Tryd.f62) (C:=(C_bags_Bag_Add_h _N))
  (a:=.two .none (.two (.draw 0 [.pure,.rd [1],.rd [0],.pure,.pure,.wr [0],.pure,.wr [0]]) .none))
  (by kernel_rfl) rfl (by kernel_rfl) (by kernel_rfl) (by kernel_rfl) rfl ⟨rfl,by unfold TOk;kernel_rfl,gOk_of rfl rfl (zD _),iOk_of rfl rfl (zD _),rfl⟩ (fun _x=>by kernel_rfl)
theorem en_bags_Bag_Add_h(_N:Nat):EntOk Tryd.prog Gs (mkHe 62 Sg_bags_Bag_Add_h (D_bags_Bag_Add_h _N)):=entH ⟨Tryd.f62,bodyOf Tryd.f62,by kernel_rfl,by kernel_rfl,rfl⟩ (sp_bags_Bag_Add_h _N)
abbrev Sg_bags_Bag_Pour_h:Sig:=⟨[.form (.ptr 0 1000000),.dat false (.sl (.pair (.int .i64) Sr)),.dat false (.int .i64)],[.oth false ⟨false,88,2,.pair (.int .i64) (.int .i64),.int .i64,false⟩],
 [],[.oth false ⟨false,88,2,.pair (.int .i64) (.int .i64),.int .i64,false⟩],[]⟩
abbrev Rt_bags_Bag_Pour_h:Type:=Ye
def C_bags_Bag_Pour_h(_N:Nat):Ctx:={ T:=[(2,⟨.int .i64,1,8,some (.int .i64),[.int .i64 (0:Int)],false,[]⟩),(29,⟨.slice 69,1,24,some (.sl (.pair (.int .i64) Sr)),[.nil],false,[]⟩),(69,⟨.struct [(0,2),(1,2),(2,2)],3,24,some (.pair (.int .i64) Sr),[.int .i64 (0:Int),.int .i64 (0:Int),.int .i64 (0:Int)],true,[]⟩),(88,⟨.struct [(0,2),(1,2)],2,16,some Sr,[.int .i64 (0:Int),.int .i64 (0:Int)],true,[]⟩)],G:=findE [mkHe 62 Sg_bags_Bag_Add_h (D_bags_Bag_Add_h _N)],I:=findI [],N:=_N,n:=26,fx:=[],fl:=1,gs:=Gs }
def bags_Bag_Pour_h_1(_N:Nat)(_v1:Int)(_v2:List Yf)(_v3:Int)(_v4:Int)(_v5:Int×List Yg)(_kn8:(Int×(List Yf)×Int)×(Int×Ye)->Option Rt_bags_Bag_Pour_h):Option Rt_bags_Bag_Pour_h:=
 (bif (decide (_v4<_v3)) then (bif (decide (0<=_v4)&&decide (_v4<(_v2.length:Int))) then ((D_bags_Bag_Add_h _N (((nth ((0:Int),((0:Int),(0:Int))) _v2 (_v4).toNat).1,((nth ((0:Int),((0:Int),(0:Int))) _v2 (_v4).toNat).2).1),(IntKind.i64.wrap (_v1*(((nth ((0:Int),((0:Int),(0:Int))) _v2 (_v4).toNat).2).2))),_v5)).bind fun _y9=>(_kn8 ((_v1,_v2,_v3),((IntKind.i64.wrap (_v4+(1:Int))),_y9)))) else none) else (some _v5))
def bags_Bag_Pour_h_2(_N:Nat)(_x1:List Yf)(_x2:Int)(_x3:Int×List Yg):Option Rt_bags_Bag_Pour_h:=
 (loopE (fun (_c:Int×(List Yf)×Int) (_s:Int×Ye) _kn=>bags_Bag_Pour_h_1 _N _c.1 _c.2.1 _c.2.2 _s.1 _s.2 _kn) _N (_x2,_x1,(_x1.length:Int)) ((0:Int),_x3))
def D_bags_Bag_Pour_h(_N:Nat)(_x:(List Yf)×Int×Ye):Option Rt_bags_Bag_Pour_h:=bags_Bag_Pour_h_2 _N _x.1 _x.2.1 _x.2.2
theorem sp_bags_Bag_Pour_h(_N:Nat):SpecH Tryd.prog Gs 44 Sg_bags_Bag_Pour_h (D_bags_Bag_Pour_h _N):=mkSpH (fn:=Tryd.f44) (c:=bodyOf Tryd.f44) (C:=(C_bags_Bag_Pour_h _N))
  (a:=.two .none (.one (.loop 1 ⟨[(0,.ptr 0 1000000),(2,.int .i64),(8,.sl (.pair (.int .i64) Sr)),(9,.int .i64),(10,.int .i64)],[.oth false ⟨false,88,2,.pair (.int .i64) (.int .i64),.int .i64,false⟩]⟩ [3,4] .none)))
  (by kernel_rfl) rfl (by kernel_rfl) (by kernel_rfl) (by kernel_rfl) rfl ⟨rfl,by unfold TOk;kernel_rfl,gOk_of rfl rfl (zI.2 ⟨en_bags_Bag_Add_h _N,(zD _)⟩),iOk_of rfl rfl (zD _),rfl⟩ (fun _x=>by kernel_rfl)
theorem en_bags_Bag_Pour_h(_N:Nat):EntOk Tryd.prog Gs (mkHe 44 Sg_bags_Bag_Pour_h (D_bags_Bag_Pour_h _N)):=entH ⟨Tryd.f44,bodyOf Tryd.f44,by kernel_rfl,by kernel_rfl,rfl⟩ (sp_bags_Bag_Pour_h _N)
abbrev Rt_bags_Bag_Rows_h:Type:=(List Yf)×Ye
def bags_Bag_Rows_h_1(_N:Nat)(_v10:Int×List Yg)(_v12:List Yf):Option Rt_bags_Bag_Rows_h:=
 ((sortR (fun p q=>(D_bags_Bag_Rows_c1 _N (p,q,())).map (·.1)) _v12).bind fun _y14=>(some (_y14,_v10)))
def bags_Bag_Rows_h_2(_N:Nat)(_k15:(Ye×Ye×(List Yf))->Option Rt_bags_Bag_Rows_h)(_v1:Int×List Yg)(_v2:Int×List Yg)(_v5:List Yf)(_kn16:Ye×(Ye×(List Yf))->Option Rt_bags_Bag_Rows_h):Option Rt_bags_Bag_Rows_h:=
 (nextE (k:=.pair (.int .i64) (.int .i64)) (v:=.int .i64) _v2 (_k15 (_v1,_v2,_v5)) (fun _y17=>fun _y18=>(bif (decide ((_v5.length+([(_y17.2.1.1,(_y17.2.1.2,_y17.2.2))]).length)*24<=140737488355328)&&Nat.ble 1 24) then (_kn16 (_v1,(((1:Int),_y17 :: _y18),(_v5 ++ [(_y17.2.1.1,(_y17.2.1.2,_y17.2.2))])))) else none)))
def bags_Bag_Rows_h_3(_N:Nat)(_x1:Int×List Yg):Option Rt_bags_Bag_Rows_h:=
 (joinD (fun (_s:Ye×Ye×(List Yf))=>bags_Bag_Rows_h_1 _N _s.1 _s.2.2) fun _k15=>(loopE (fun (_c:Ye) (_s:Ye×(List Yf)) _kn=>bags_Bag_Rows_h_2 _N _k15 _c _s.1 _s.2 _kn) _N _x1 (((0:Int),_x1.2),[])))
def D_bags_Bag_Rows_h(_N:Nat)(_x:Ye):Option Rt_bags_Bag_Rows_h:=bags_Bag_Rows_h_3 _N _x
end Go.Proofs.YtnhjpicdijeagaaDoor
end

namespace Go.Bag
open Go.Abs
abbrev Row:=Int×Int×Int
abbrev Key:=Int×Int
def ky(r:Row):Key:=(r.1,r.2.1)
def w(n:Int):Int:=IntKind.i64.wrap n
theorem w_def(n:Int):w n=(n+9223372036854775808) % 18446744073709551616 - 9223372036854775808:=by
 unfold w
 rw [IntKind.wrap_i64]
 try omega
def Cg(a b:Int):Prop:=w a=w b
theorem cg_iff{a b:Int}:Cg a b↔∃ t,a=b+18446744073709551616*t:=by
 unfold Cg
 rw [w_def,w_def]
 constructor
 ·intro h
  refine⟨(a+9223372036854775808) / 18446744073709551616 - (b+9223372036854775808) / 18446744073709551616,?_⟩
  omega
 ·rintro⟨t,rfl⟩
  omega
theorem Cg.rfl{a:Int}:Cg a a:=Eq.refl _
theorem Cg.symm{a b:Int}(h:Cg a b):Cg b a:=Eq.symm h
theorem Cg.trans{a b c:Int}(h:Cg a b)(h':Cg b c):Cg a c:=Eq.trans h h'
theorem Cg.of_eq{a b:Int}(h:a=b):Cg a b:=h▸Cg.rfl
theorem cg_w(a:Int):Cg (w a) a:=by
 rw [cg_iff]
 rw [w_def]
 exact⟨-((a+9223372036854775808) / 18446744073709551616),by omega⟩
theorem Cg.add{a b c d:Int}(h:Cg a b)(h':Cg c d):Cg (a+c) (b+d):=by
 obtain⟨t,rfl⟩:=cg_iff.1 h
 obtain⟨u,rfl⟩:=cg_iff.1 h'
 exact cg_iff.2 ⟨t+u,by rw [Int.mul_add];omega⟩
theorem Cg.mul{a b c d:Int}(h:Cg a b)(h':Cg c d):Cg (a*c) (b*d):=by
 obtain⟨t,rfl⟩:=cg_iff.1 h
 obtain⟨u,rfl⟩:=cg_iff.1 h'
 refine cg_iff.2 ⟨t*d+b*u+t*(18446744073709551616*u),?_⟩
 simp only [Int.add_mul,Int.mul_add,Int.mul_assoc,Int.mul_left_comm b 18446744073709551616 u,Int.mul_left_comm t 18446744073709551616 u]
 omega
theorem w_eq{a b:Int}(h:Cg a b):w a=w b:=h
theorem w_zero:w 0=0:=by decide
def amt:List Row->Key->Int
 | [],_=>0
 | r :: l,e=>(if ky r=e then r.2.2 else 0)+amt l e
def tot:List Row->Int
 | []=>0
 | r :: l=>r.2.2+tot l
theorem amt_append(a b:List Row)(e:Key):amt (a++b) e=amt a e+amt b e:=by
 induction a with
 | nil=>simp [amt]
 | cons r a ih=>simp only [List.cons_append,amt,ih];omega
theorem tot_append(a b:List Row):tot (a++b)=tot a+tot b:=by
 induction a with
 | nil=>simp [tot]
 | cons r a ih=>simp only [List.cons_append,tot,ih];omega
theorem amt_perm{a b:List Row}(h:a.Perm b)(e:Key):amt a e=amt b e:=by
 induction h with
 | nil=>rfl
 | cons x _ ih=>simp only [amt,ih]
 | swap x y l=>simp only [amt];omega
 | trans _ _ ih1 ih2=>rw [ih1,ih2]
def rlt(a b:Row):Prop:=a.1<b.1\/(a.1=b.1/\a.2.1<b.2.1)
instance (a b:Row):Decidable (rlt a b):=by unfold rlt;infer_instance
theorem rlt_irrefl(a:Row):¬ rlt a a:=by unfold rlt;omega
theorem rlt_trans{a b c:Row}(h:rlt a b)(h':rlt b c):rlt a c:=by unfold rlt at *;omega
theorem rlt_total{a b:Row}(h:¬ rlt a b)(h':¬ rlt b a):ky a=ky b:=by
 unfold rlt at *
 unfold ky
 exact Prod.ext (by simp only;omega) (by simp only;omega)
theorem rlt_ne{a b:Row}(h:rlt a b):ky a≠ky b:=fun e=>by
 unfold ky at e
 unfold rlt at h
 simp only [zN] at e
 omega
theorem amt_notin{l:List Row}{e:Key}(h:∀ r∈l,ky r≠e):amt l e=0:=by
 induction l with
 | nil=>rfl
 | cons r l ih=>
  simp only [amt]
  rw [zL (h r (by simp)),ih fun s hs=>h s (by simp [hs])];rfl
theorem amt_mem{l:List Row}(hn:(l.map ky).Nodup){r:Row}(hr:r∈l):amt l (ky r)=r.2.2:=by
 induction l with
 | nil=>cases hr
 | cons s l ih=>
  simp only [List.map_cons,zX] at hn
  simp only [amt]
  rcases zg.1 hr with rfl | hr
  ·rw [zK rfl,amt_notin fun s hs e=>hn.1 (zr.2 ⟨s,hs,e⟩)];omega
  ·rw [zL (fun e=>hn.1 (zr.2 ⟨r,hr,e.symm⟩)),ih hn.2 hr];omega
theorem rise_nodup{l:List Row}(h:l.Pairwise rlt):(l.map ky).Nodup:=by
 unfold List.Nodup
 rw [zBH]
 exact h.imp fun h=>rlt_ne h
structure IsBag (f:Key->Int) (l:List Row):Prop where
 rise:l.Pairwise rlt
 nz:∀ r∈l,r.2.2≠0
 val:∀ e,amt l e=w (f e)
theorem IsBag.cg{f g:Key->Int}{l:List Row}(h:IsBag f l)(hg:∀ e,Cg (f e) (g e)):IsBag g l:=⟨h.rise,h.nz,fun e=>(h.val e).trans (hg e)⟩
theorem IsBag.mem{f:Key->Int}{l:List Row}(h:IsBag f l){r:Row}:r∈l↔r.2.2≠0/\w (f (ky r))=r.2.2:=by
 constructor
 ·intro hr
  exact⟨h.nz r hr,by rw [<- h.val,amt_mem (rise_nodup h.rise) hr]⟩
 ·rintro⟨h1,h2⟩
  refine Classical.byContradiction fun hno=>?_
  by_cases hk:∃ s∈l,ky s=ky r
  ·obtain⟨s,hs,e⟩:=hk
   have:=amt_mem (rise_nodup h.rise) hs
   rw [e,h.val,h2] at this
   have e':s=r:=by
    unfold ky at e
    simp only [zN] at e
    exact Prod.ext e.1 (Prod.ext e.2 this.symm)
   exact hno (e'▸hs)
  ·have:=amt_notin (l:=l) (e:=ky r) fun s hs e=>hk ⟨s,hs,e⟩
   rw [h.val,h2] at this
   exact h1 this
theorem IsBag.uniq{f:Key->Int}{l m:List Row}(h:IsBag f l)(h':IsBag f m):l=m:=by
 have nd:∀ {l:List Row},l.Pairwise rlt->l.Nodup:=fun {l} hp=>List.Pairwise.imp (fun {a b} (h:rlt a b) (e:a=b)=>rlt_irrefl b (by rw [e] at h;exact h)) hp
 refine sorted_uniq (r:=fun a b=>rlt a b) l m (fun a _ b _ h1 h2=>absurd (rlt_trans h1 h2) (rlt_irrefl a)) ?_ h.rise h'.rise
 exact (List.perm_ext_iff_of_nodup (nd h.rise) (nd h'.rise)).2 fun r=>h.mem.trans h'.mem.symm
theorem IsBag.same{f g:Key->Int}{l m:List Row}(h:IsBag f l)(h':IsBag g m)(hg:∀ e,Cg (f e) (g e)):l=m:=(h.cg hg).uniq h'
theorem keys_le:∀ (n:Nat) (m:List Row),m.length<=n->∀ (ks:List Key),ks.Nodup->(∀ e∈ks,∃ r∈m,ky r=e)->ks.length<=m.length
 | 0,m,hm,ks,_,h=>by
  have:m = []:=zZ (by omega)
  subst this
  cases ks with
  | nil=>exact Nat.le_refl _
  | cons e ks=>obtain⟨r,hr,-⟩:=h e (by simp);cases hr
 | n+1,[],_,ks,_,h=>by
  cases ks with
  | nil=>exact Nat.le_refl _
  | cons e ks=>obtain⟨r,hr,-⟩:=h e (by simp);cases hr
 | n+1,r :: m,hm,ks,hn,h=>by
  have h1:=keys_le n m (by simp at hm;omega) (ks.filter fun e=>decide (e≠ky r)) (hn.sublist List.filter_sublist) fun e he=>by
   simp only [zc,zQ] at he
   obtain⟨s,hs,e1⟩:=h e he.1
   rcases zg.1 hs with rfl | hs
   ·exact absurd e1.symm he.2
   ·exact⟨s,hs,e1⟩
  have h2:ks.length<=(ks.filter fun e=>decide (e≠ky r)).length+1:=by
   have key:∀ ks:List Key,ks.Nodup->ks.length<=(ks.filter fun e=>decide (e≠ky r)).length+1:=by
    intro ks
    induction ks with
    | nil=>intro _;simp
    | cons e ks ih=>
     intro hn
     rw [zX] at hn
     by_cases q:e=ky r
     ·rw [zAg (by simp [q])]
      have:ks.filter (fun e=>decide (e≠ky r))=ks:=zAS.2 fun x hx=>by
       rw [zQ];exact fun e1=>hn.1 (by rw [q,<- e1];exact hx)
      rw [this];simp
     ·rw [zAU (by simp [q])]
      have:=ih hn.2
      simp only [List.length_cons];omega
   exact key ks hn
  simp only [List.length_cons];omega
theorem IsBag.len_le'{f:Key->Int}{l m:List Row}(h:IsBag f l)(hm:∀ e,(∀ r∈m,ky r≠e)->Cg (f e) 0):l.length<=m.length:=by
 have:=keys_le m.length m (Nat.le_refl _) (l.map ky) (rise_nodup h.rise) fun e he=>by
  obtain⟨r,hr,rfl⟩:=zr.1 he
  refine Classical.byContradiction fun hno=>?_
  have h0:=hm (ky r) fun s hs e=>hno ⟨s,hs,e⟩
  obtain⟨h1,h2⟩:=h.mem.1 hr
  rw [w_eq h0,w_zero] at h2
  exact h1 h2.symm
 simpa using this
def Tld(F:Key->Int)(lim:Prop)(out:List Row)(c:Int):Prop:=(c=0/\out.length<=128/\¬ lim/\IsBag F out)\/(c=1/\out = []/\(lim\/∃ l,IsBag F l/\128<l.length))
theorem Tld.ok{F:Key->Int}{lim:Prop}{out:List Row}{c:Int}(h:Tld F lim out c)(hc:c=0):out.length<=128/\¬ lim/\IsBag F out:=by
 rcases h with h | h
 ·exact h.2
 ·omega
theorem Tld.is0{F:Key->Int}{lim:Prop}{out:List Row}{c:Int}(h:Tld F lim out c)(hl:¬ lim){m:List Row}(hm:m.length<=128)(hF:∀ e,(∀ r∈m,ky r≠e)->Cg (F e) 0):c=0:=by
 rcases h with h | ⟨-,-,h | ⟨l,h1,h2⟩⟩
 ·exact h.1
 ·exact absurd h hl
 ·have:=h1.len_le' hF;omega
theorem Tld.same{F G:Key->Int}{lim lim':Prop}{out out':List Row}{c c':Int}(h:Tld F lim out c)(h':Tld G lim' out' c')(hg:∀ e,Cg (F e) (G e))(hl:lim↔lim'):out=out'/\c=c':=by
 rcases h with⟨c0,h1,h2,h3⟩ | ⟨c1,h1,h2⟩
 ·rcases h' with⟨c0',h1',h2',h3'⟩ | ⟨c1',h1',h2'⟩
  ·exact⟨h3.same h3' hg,by omega⟩
  ·rcases h2' with h2' | ⟨l,p1,p2⟩
   ·exact absurd (hl.2 h2') h2
   ·have:=h3.same p1 hg;subst this;omega
 ·rcases h' with⟨c0',h1',h2',h3'⟩ | ⟨c1',h1',h2'⟩
  ·rcases h2 with h2 | ⟨l,p1,p2⟩
   ·exact absurd (hl.1 h2) h2'
   ·have:=p1.same h3' hg;subst this;omega
  ·exact⟨by rw [h1,h1'],by omega⟩
end Go.Bag

namespace Go.Proofs.YtnhjpicdijeagaaDoor
open Go.Abs Go.Bag
theorem lt_d{i m:Nat}(h:i<m):decide ((i:Int)<(m:Int))=true:=d_true (by omega)
theorem lt_self(m:Nat):decide ((m:Int)<(m:Int))=false:=d_false (by omega)
theorem ge0_d(i:Nat):decide ((0:Int)<=(i:Int))=true:=d_true (by omega)
theorem mem_nth{α:Type}{z a:α}{xs:List α}(h:a∈xs):∃ t,t<xs.length/\nth z xs t=a:=by
 obtain⟨t,ht,e⟩:=zAq h
 exact⟨t,ht,by rw [nth_lt ht,e]⟩
theorem ix1{n i:Nat}(h:i<n)(hn:n<=4611686018427387904):IntKind.i64.wrap ((i:Int)+1)=(i:Int)+1:=w64 (by omega) (by omega)
theorem bool_eq{a b:Bool}(h:a=true↔b=true):a=b:=by cases a <;> cases b <;> simp_all
theorem loopD_s{R S:Type}(f:S->(S->Option R)->Option R)(n:Nat)(s:S):loopD f (n+1) s=f s (loopD f n):=rfl
theorem take_nth{α:Type}{z:α}{xs:List α}{i:Nat}(h:i<xs.length):xs.take (i+1)=xs.take i ++ [nth z xs i]:=by
 rw [List.take_succ_eq_append_getElem h,nth_lt h]
abbrev kS:Sh:=.pair (.int .i64) (.int .i64)
abbrev vS:Sh:=.int .i64
abbrev Bg:Type:=Int×List (Int×(Int×Int)×Int)
abbrev kSn:noSl kS=true:=rfl
structure BOk (f:Key->Int) (d:Bg):Prop where
 ok:MpOk kS vS d
 nz:∀ e∈d.2,e.2.2≠0
 val:∀ e:Int×Int,mpGet kS vS d e=w (f e)
theorem BOk.empty:BOk (fun _=>0) ((0:Int),[]):=⟨MpOk.empty,(fun e h=>by cases h),fun e=>by rw [w_zero];rfl⟩
theorem BOk.cg{f g:Key->Int}{d:Bg}(h:BOk f d)(hg:∀ e,Cg (f e) (g e)):BOk g d:=⟨h.ok,h.nz,fun e=>(h.val e).trans (hg e)⟩
theorem Add_eq{N:Nat}{f:Key->Int}{d:Bg}(h:BOk f d)(e:Int×Int)(n:Int) :
  ∃ d',D_bags_Bag_Add_h N (e,n,d)=some d'/\BOk (fun z=>f z+if z=e then n else 0) d'/\d'.2.length<=d.2.length+1:=by
 have hs:mpStands kS vS (mpEnt kS vS d e) (mpWhen kS vS d e)=true:=mpStands_ent (k:=kS) (v:=vS) d e
 have hp:∀ y:Int,mpAt kS vS (mpEnt kS vS d e) (mpWhen kS vS d e) y=mpPut kS vS d e y:=fun y=>mpAt_ent (k:=kS) (v:=vS) h.ok e y
 have hg:∀ y:Int,mpGet kS vS (mpPut kS vS d e y) e=y:=fun y=>mput_get (k:=kS) (v:=vS) kSn d e y
 have hee:(e.1,e.2)=e:=rfl
 simp only [D_bags_Bag_Add_h,bags_Bag_Add_h_1,hee,hs,cond_true,hp,hg,h.val]
 have hw:IntKind.i64.wrap (w (f e)+n)=w (f e+n):=((cg_w (f e)).add Cg.rfl:Cg _ _)
 rw [hw]
 have hput:=h.ok.put kSn e (w (f e+n))
 have hne:∀ z:Int×Int,z≠e->mpGet kS vS (mpPut kS vS d e (w (f e+n))) z=w (f z):=fun z hz=>(mput_get_ne (k:=kS) (v:=vS) kSn d hz _).trans (h.val z)
 have hnz:∀ x∈(mpPut kS vS d e (w (f e+n))).2,x.2.1≠e->x.2.2≠0:=fun x hx hxe=>by
  obtain⟨g1,g2⟩:=mem_get (k:=kS) (v:=vS) kSn hput hx
  rw [mput_has_ne (k:=kS) (v:=vS) kSn d hxe] at g1
  rw [mput_get_ne (k:=kS) (v:=vS) kSn d hxe] at g2
  obtain⟨y,y1,y2,y3⟩:=has_mem (k:=kS) (v:=vS) g1
  rw [<- g2,<- y3];exact h.nz y y1
 have hlen:=put_len (k:=kS) (v:=vS) d e (w (f e+n))
 by_cases q:w (f e+n)=0
 ·rw [show (w (f e+n)==0)=true from beq_iff_eq.2 q,cond_true]
  refine⟨_,rfl,⟨hput.del e,fun x hx=>?_,fun z=>?_⟩,zq (del_len _ _) hlen⟩
  ·have hx':=(drop_sub (x:=e) (mpPut kS vS d e (w (f e+n))).2).subset hx
   refine hnz x hx' fun hxe=>?_
   obtain⟨g1,-⟩:=mem_get (k:=kS) (v:=vS) kSn (hput.del e) hx
   rw [hxe,del_has (k:=kS) (v:=vS) kSn hput] at g1
   cases g1
  ·by_cases hz:z=e
   ·subst hz;rw [del_get (k:=kS) (v:=vS) kSn hput,zK rfl,q];rfl
   ·rw [del_get_ne (k:=kS) (v:=vS) _ hz,hne z hz,zL hz,zAl]
 ·rw [show (w (f e+n)==0)=false from zS q,cond_false]
  refine⟨_,rfl,⟨hput,fun x hx=>?_,fun z=>?_⟩,hlen⟩
  ·by_cases hxe:x.2.1=e
   ·obtain⟨-,g2⟩:=mem_get (k:=kS) (v:=vS) kSn hput hx
    rw [hxe,hg] at g2
    rw [<- g2];exact q
   ·exact hnz x hx hxe
  ·by_cases hz:z=e
   ·subst hz;rw [hg,zK rfl]
   ·rw [hne z hz,zL hz,zAl]
theorem Pour_eq{N:Nat}{f:Key->Int}{d:Bg}(h:BOk f d)(l:List Row)(n:Int)(hN:l.length<N)(hl:l.length<=4611686018427387904) :
  ∃ d',D_bags_Bag_Pour_h N (l,n,d)=some d'/\BOk (fun z=>f z+n*amt l z) d'/\d'.2.length<=d.2.length+l.length:=by
 simp only [D_bags_Bag_Pour_h,bags_Bag_Pour_h_2,loopE]
 obtain⟨s',⟨h1,h2,h3⟩,e⟩:=loopD_inv (g:=fun (s:Int×Bg) kn=>bags_Bag_Pour_h_1 N n l (l.length:Int) s.1 s.2 (backE (n,l,(l.length:Int)) kn)) (k:=fun s:Int×Bg=>some s.2) l.length
  (fun i s=>s.1=(i:Int)/\BOk (fun z=>f z+n*amt (l.take i) z) s.2/\s.2.2.length<=d.2.length+i) (N:=N) (s:=((0:Int),d))
  (by
   rintro i ⟨_,b⟩ hi ⟨rfl,hb,hlen⟩
   simp only at hb hlen
   obtain⟨b',e1,e2,e3⟩:=Add_eq (N:=N) hb (ky (nth (0,0,0) l i)) (IntKind.i64.wrap (n*(nth ((0:Int),(0:Int),(0:Int)) l i).2.2))
   refine⟨((i:Int)+1,b'),⟨by simp,e2.cg fun z=>?_,by simp only;omega⟩,fun kn=>?_⟩
   ·rw [take_nth (z:=((0:Int),(0:Int),(0:Int))) hi,amt_append]
    simp only [amt,zAl]
    generalize nth ((0:Int),(0:Int),(0:Int)) l i=r
    rw [Int.mul_add,<- Int.add_assoc]
    refine Cg.rfl.add ?_
    by_cases hz:z=ky r
    ·rw [zK hz,zK hz.symm];exact cg_w _
    ·rw [zL hz,zL fun h=>hz h.symm,Int.mul_zero];exact Cg.rfl
   ·have e1':D_bags_Bag_Add_h N (((nth ((0:Int),(0:Int),(0:Int)) l i).1,(nth ((0:Int),(0:Int),(0:Int)) l i).2.1),IntKind.i64.wrap (n*(nth ((0:Int),(0:Int),(0:Int)) l i).2.2),b)=some b':=e1
    simp only [bags_Bag_Pour_h_1,lt_d hi,ge0_d,Int.toNat_natCast,Bool.and_self,cond_true,e1',Option.bind_some,ix1 hi hl,backE_eq])
  (by
   rintro⟨_,b⟩ ⟨rfl,hb,hlen⟩ kn
   simp only [bags_Bag_Pour_h_1,lt_self,cond_false])
  hN ⟨rfl,h.cg fun z=>by simp only [List.take_zero,amt,Int.mul_zero,zAl];exact Cg.rfl,Nat.le_refl _⟩
 exact⟨s'.2,e,by simpa only [zAT] using h2,h3⟩
theorem Compare_eq(N:Nat)(a b:Int):D_cmp_Compare_int64 N (a,b,())=some (if a<b then -1 else if a>b then 1 else 0,()):=by
 have hn:∀ x:Int,D_cmp_isNaN_int64 N (x,())=some (false,()):=fun x=>by
  simp only [D_cmp_isNaN_int64,cmp_isNaN_int64_1,bne_self_eq_false]
 simp only [D_cmp_Compare_int64,cmp_Compare_int64_1,hn,Option.bind_some,cond_false]
 by_cases h1:a<b
 ·rw [d_true h1,zK h1];rfl
 rw [d_false h1,zL h1]
 by_cases h2:a>b
 ·rw [d_true h2,zK h2];rfl
 ·rw [d_false h2,zL h2];rfl
def rcmp(p q:Row):Int:=if p.1<q.1 then -1 else if p.1>q.1 then 1 else if p.2.1<q.2.1 then -1 else if p.2.1>q.2.1 then 1 else 0
theorem Or_eq{N:Nat}(hN:10<=N)(a b:Int):D_cmp_Or_int N ([a,b],())=some (if a=0 then b else a,()):=by
 obtain⟨M,rfl⟩:∃ M,N=M+3:=⟨N - 3,by omega⟩
 simp only [D_cmp_Or_int,cmp_Or_int_3,joinD,loopE]
 have hb:∀ (K:Int->_) (i:Nat),i<([a,b]:List Int).length->∀ kn,cmp_Or_int_2 (M+3) K 0 [a,b] (([a,b]:List Int).length:Int) (i:Int) (backE ((0:Int),[a,b],(([a,b]:List Int).length:Int)) kn)=if nth 0 [a,b] i=0 then kn ((i:Int)+1) else some (nth 0 [a,b] i,()):=fun K i hi kn=>by
  have hi2:i<2:=hi
  simp only [cmp_Or_int_2,lt_d hi,ge0_d,Int.toNat_natCast,Bool.and_self,cond_true,ix1 hi2 (by omega),backE_eq]
  by_cases q:nth 0 [a,b] i=0
  ·rw [zK q,q,bne_self_eq_false];rfl
  ·rw [zL q,show (nth 0 [a,b] i != 0)=true from bne_iff_ne.2 q];rfl
 have h0:nth 0 [a,b] 0=a:=rfl
 have h1:nth 0 [a,b] 1=b:=rfl
 rw [loopD_s]
 have e0:=hb (fun s=>cmp_Or_int_1 (M+3) s) 0 (by simp)
 rw [h0] at e0
 refine (e0 _).trans ?_
 by_cases ha:a=0
 ·rw [zK ha,zK ha,loopD_s]
  have e1:=hb (fun s=>cmp_Or_int_1 (M+3) s) 1 (by simp)
  rw [h1] at e1
  refine (e1 _).trans ?_
  by_cases hbz:b=0
  ·rw [zK hbz,loopD_s]
   have:=lt_self ([a,b]:List Int).length
   simp only [cmp_Or_int_2]
   rw [show (((1:Nat):Int)+1)=(([a,b]:List Int).length:Int) from rfl,this,cond_false,cmp_Or_int_1,hbz]
  ·rw [zL hbz]
 ·rw [zL ha,zL ha]
theorem rows_cmp{N:Nat}(hN:10<=N)(p q:Row):D_bags_Bag_Rows_c1 N (p,q,())=some (rcmp p q,()):=by
 simp only [D_bags_Bag_Rows_c1,bags_Bag_Rows_c1_1,Compare_eq N p.1 q.1,Compare_eq N p.2.1 q.2.1,Option.bind_some,Or_eq hN,rcmp]
 by_cases h1:p.1<q.1
 ·simp [zK h1]
 ·by_cases h2:p.1>q.1
  ·simp [zL h1,zK h2]
  ·simp [zL h1,zL h2]
theorem rcmp_iff(p q:Row):rcmp p q<0↔rlt p q:=by
 unfold rcmp rlt
 by_cases h1:p.1<q.1
 ·rw [zK h1];omega
 ·rw [zL h1]
  by_cases h2:p.1>q.1
  ·rw [zK h2];omega
  ·rw [zL h2]
   by_cases h3:p.2.1<q.2.1
   ·rw [zK h3];omega
   ·rw [zL h3]
    split <;> omega
theorem rcmp_lt(p q:Row):decide (rcmp p q<0)=decide (rlt p q):=bool_eq (by rw [zQ,zQ];exact rcmp_iff p q)
theorem sort_rows{N:Nat}(hN:10<=N){xs:List Row}(hl:xs.length<4611686018427387904)(hn:(xs.map ky).Nodup) :
  ∃ ys:List Row,sortR (fun p q=>(D_bags_Bag_Rows_c1 N (p,q,())).map (·.1)) xs=some ys/\ys.Perm xs/\ys.Pairwise rlt:=by
 have hlt:∀ a b:Row,ltB (fun p q:Row=>(D_bags_Bag_Rows_c1 N (p,q,())).map (·.1)) a b=decide (rlt a b):=fun a b=>by
  unfold ltB
  simp only [rows_cmp hN a b,Option.map_some]
  exact rcmp_lt a b
 have hok:SortOk (fun p q:Row=>(D_bags_Bag_Rows_c1 N (p,q,())).map (·.1)) xs:=by
  refine⟨hl,fun a _ b _=>⟨rcmp a b,by rw [rows_cmp hN];rfl⟩,fun a _=>by rw [hlt];exact d_false (rlt_irrefl a),fun a _ b _ c _ h1 h2=>?_,fun a ha b hb h1 h2=>?_⟩
  ·rw [hlt] at h1 h2 ⊢
   exact d_true (rlt_trans (zh h1) (zh h2))
  ·rw [hlt] at h1 h2
   have hk:=rlt_total (zBs h1) (zBs h2)
   have e1:=amt_mem hn ha
   have e2:=amt_mem hn hb
   rw [hk,e2] at e1
   unfold ky at hk
   simp only [zN] at hk
   exact Prod.ext hk.1 (Prod.ext hk.2 e1.symm)
 obtain⟨ys,h1,h2,h3⟩:=sortR_ok hok
 refine⟨ys,h1,h2,?_⟩
 have hny:(ys.map ky).Nodup:=(h2.map ky).nodup_iff.2 hn
 have hny':ys.Pairwise fun a b=>ky a≠ky b:=by rw [<- zBH];exact hny
 refine (h3.and hny').imp fun {a b} hab=>?_
 obtain⟨p1,p2⟩:=hab
 rw [hlt] at p1
 exact Classical.byContradiction fun hno=>p2 (rlt_total hno (zBs p1))
def rowOf(e:Int×(Int×Int)×Int):Row:=(e.2.1.1,e.2.1.2,e.2.2)
theorem Rows_eq{N:Nat}{f:Key->Int}{d:Bg}(h:BOk f d)(hN:d.2.length+10<N)(hb:d.2.length*24<=140737488355328) :
  ∃ out:List Row,D_bags_Bag_Rows_h N d=some (out,d)/\IsBag f out/\out.length=d.2.length:=by
 have hn:((d.2.map rowOf).map ky).Nodup:=by
  rw [List.map_map];exact h.ok.keys
 obtain⟨ys,s1,s2,s3⟩:=sort_rows (N:=N) (by omega) (xs:=d.2.map rowOf) (by rw [zAR];omega) hn
 have hsort:∀ xs:List Row,xs.Perm (d.2.map rowOf)->sortR (fun p q=>(D_bags_Bag_Rows_c1 N (p,q,())).map (·.1)) xs=some ys:=fun xs hp=>by
  obtain⟨zs,t1,t2,t3⟩:=sort_rows (N:=N) (by omega) (xs:=xs) (by rw [hp.length_eq,zAR];omega) ((hp.map ky).nodup_iff.2 hn)
  rw [t1]
  exact congrArg some (sorted_uniq (r:=fun a b=>rlt a b) zs ys (fun a _ b _ h1 h2=>absurd (rlt_trans h1 h2) (rlt_irrefl a)) ((t2.trans hp).trans s2.symm) t3 s3)
 refine⟨ys,?_,⟨s3,fun r hr=>?_,fun e=>?_⟩,by rw [s2.length_eq,zAR]⟩
 ·simp only [D_bags_Bag_Rows_h,bags_Bag_Rows_h_3,joinD,loopE]
  refine range_loop (k:=kS) (v:=vS) (ys,d) (fun rest s=>(s++rest.map rowOf).Perm (d.2.map rowOf)) (fun dd s kn hI hkn=>?_) N ((0:Int),d.2) [] (by exact .refl _) (by show d.2.length<N;omega)
  simp only [bags_Bag_Rows_h_2]
  refine nextE_run (k:=kS) (v:=vS) (fun hr=>?_) (fun i x hx=>?_)
  ·rw [hr,List.map_nil,List.append_nil] at hI
   simp only [bags_Bag_Rows_h_1,hsort s hI,Option.bind_some]
  ·have hl:=hI.length_eq
   simp only [zw,zAR] at hl
   have hpos:=(zP.1 hx).1
   rw [d_true (show (s.length+([(x.2.1.1,(x.2.1.2,x.2.2))]:List Row).length)*24<=140737488355328 by simp only [List.length_singleton];omega),show Nat.ble 1 24=true from rfl,Bool.and_self,cond_true,backE_eq]
   refine hkn x _ _ ?_ (erase_len hx)
   refine List.Perm.trans ?_ hI
   rw [zi]
   exact (erase_perm rowOf hx).append_left s
 ·obtain⟨e,he,rfl⟩:=zr.1 (s2.subset hr)
  exact h.nz e he
 ·rw [amt_perm s2 e,<- h.val e]
  cases q:mpHas kS vS d e with
  | true=>
   obtain⟨x,x1,x2,x3⟩:=has_mem (k:=kS) (v:=vS) q
   have:=amt_mem hn (zr.2 ⟨x,x1,rfl⟩)
   have hk:ky (rowOf x)=e:=x2
   rw [hk] at this
   rw [this];exact x3
  | false=>
   rw [get_zero (k:=kS) (v:=vS) q]
   refine amt_notin fun r hr hk=>?_
   obtain⟨x,hx,rfl⟩:=zr.1 hr
   have:=(mem_get (k:=kS) (v:=vS) kSn h.ok hx).1
   have hk':x.2.1=e:=hk
   rw [hk',q] at this
   cases this
end Go.Proofs.YtnhjpicdijeagaaDoor

namespace Go.Proofs.YtnhjpicdijeagaaDoor
open Go.Abs Go.RowKit Go.Shelf
attribute [local go_sem] Oper.semAt_some
abbrev Rw:=Int×Int×Int
def hdn:List Rw->Nat
 | []=>0
 | r :: l=>(l.takeWhile fun s=>s.1==r.1).length+1
theorem hdn_le:(l:List Rw)->hdn l<=l.length
 | []=>Nat.le_refl _
 | r :: l=>by
  have:=(List.takeWhile_sublist (l:=l) fun s:Rw=>s.1==r.1).length_le
  simp only [hdn,List.length_cons]
  omega
def grpF:Nat->List Rw->List (List Rw)
 | 0,_=>[]
 | _+1,[]=>[]
 | n+1,r :: l=>(r :: l).take (hdn (r :: l)) :: grpF n ((r :: l).drop (hdn (r :: l)))
def grp(l:List Rw):List (List Rw):=grpF l.length l
theorem grpF_more:(n:Nat)->(l:List Rw)->l.length<=n->grpF n l=grp l
 | 0,l,h=>by
  have:l = []:=zZ (by omega)
  subst this;rfl
 | n+1,[],_=>rfl
 | n+1,r :: l,h=>by
  have h1:((r :: l).drop (hdn (r :: l))).length<=l.length:=by
   rw [zAE]
   simp only [List.length_cons,hdn]
   omega
  simp only [List.length_cons] at h
  unfold grp
  simp only [List.length_cons,grpF]
  rw [grpF_more n _ (by omega),grpF_more l.length _ h1]
theorem grp_nil:grp [] = []:=rfl
theorem grp_cons(r:Rw)(l:List Rw):grp (r :: l)=(r :: l).take (hdn (r :: l)) :: grp ((r :: l).drop (hdn (r :: l))):=by
 have h1:((r :: l).drop (hdn (r :: l))).length<=l.length:=by
  rw [zAE]
  simp only [List.length_cons,hdn]
  omega
 unfold grp
 simp only [List.length_cons,grpF]
 rw [grpF_more l.length _ h1]
 rfl
theorem hdn_pos{l:List Rw}(h:l ≠ []):0<hdn l:=by
 cases l with
 | nil=>exact absurd rfl h
 | cons r l=>simp only [hdn];omega
def kyAt(l:List Rw)(i:Nat):Int:=(nth ((0:Int),(0:Int),(0:Int)) l i).1
theorem kyAt_drop(l:List Rw)(n i:Nat):kyAt (l.drop n) i=kyAt l (n+i):=by
 unfold kyAt nth
 rw [zJ,zJ,zAA]
theorem tw_in:(l:List Rw)->(k:Int)->(i:Nat)->i<(l.takeWhile fun s=>s.1==k).length->kyAt l i=k
 | [],_,_,h=>by simp at h
 | r :: l,k,i,h=>by
  by_cases q:r.1=k
  ·rw [zBM (by simp [q])] at h
   cases i with
   | zero=>exact q
   | succ i=>exact tw_in l k i (by simpa using h)
  ·rw [zBN (by simp [q])] at h;simp at h
theorem tw_out:(l:List Rw)->(k:Int)->(l.takeWhile fun s=>s.1==k).length<l.length->kyAt l (l.takeWhile fun s=>s.1==k).length≠k
 | [],_,h=>by simp at h
 | r :: l,k,h=>by
  by_cases q:r.1=k
  ·rw [zBM (by simp [q])] at h ⊢
   exact tw_out l k (by simpa using h)
  ·rw [zBN (by simp [q])]
   exact q
theorem hdn_in{l:List Rw}{i:Nat}(h:i<hdn l):kyAt l i=kyAt l 0:=by
 cases l with
 | nil=>simp [hdn] at h
 | cons r l=>
  cases i with
  | zero=>rfl
  | succ i=>exact tw_in l r.1 i (by simp only [hdn] at h;omega)
theorem hdn_out{l:List Rw}(h:hdn l<l.length):kyAt l (hdn l)≠kyAt l 0:=by
 cases l with
 | nil=>simp [hdn] at h
 | cons r l=>exact tw_out l r.1 (by simp only [hdn,List.length_cons] at h;omega)
theorem below_drewN(w:World)(k:Nat):Go.Abs.Below w.heap.size w (w.drewN k):=⟨rfl,⟨rfl,zBb _ _⟩,rfl,Nat.le_refl _,fun _ _=>rfl⟩
def natOf:Value->Nat
 | .int _ n=>n.toNat
 | _=>0
set_option maxRecDepth 100000 in
set_option maxHeartbeats 1500000 in
theorem keyed_in(n l b q cap:Nat)(xs:List Rw)(a:Option Addr)(ha:xs ≠ []->a=some ⟨b,q,none⟩)(hlen:xs.length<=cap)(hcap:cap<=maxI)(J:Nat->World->Prop)(Jx:World->Prop)
  (hJg:∀ i X Y,J i X->Go.Abs.Below X.heap.size X Y->J i Y) (hC:∀ i X,J i X->∀ j,j<xs.length->X.cell? ⟨b,q+j*3,none⟩=some (.int .i64 (kyAt xs j)))
  (hY:∀ i fr len X,(grp xs)[i]? = some ((xs.drop fr).take len)->fr+len<=xs.length->0<len->J i X ->
   YieldAt Fence.wide (n - 1) Tryd.prog l #[.slice (some ⟨b,q+fr*3,none⟩) len (cap - fr)] X fun e W'=>(e=.returned (.bool true)/\J (i+1) W')\/(e=.returned (.bool false)/\Jx W'))
  (W:World) (h0:J 0 W) :
  CallsIn Fence.wide n Tryd.prog 78 #[.slice a xs.length cap,.func (.yield l) #[] #[]] W fun e W'=>(∃ v,e=.returned v)/\(J (grp xs).length W'\/Jx W'):=by
 refine callsIn_of_wp Tryd.func78 rfl trivial ?_ rfl
 simp only [Tryd.ntmps78,List.size_toArray,List.length_cons,List.length_nil,Nat.reduceAdd,Nat.reduceSub,zBl,zBk,zBz,zBq,List.nil_append,List.cons_append]
 unfold maxI at hcap
 gi_wp2
 gi_loopw [4] (fun p wr=>∃ (fr i:Nat),p=.int .i64 (fr:Int)/\fr<=xs.length/\(grp xs).drop i=grp (xs.drop fr)/\i<=(grp xs).length/\J i wr)
  (fun p _=>xs.length - natOf p)
 case atStart=>exact⟨0,0,rfl,zAG _,rfl,zAG _,h0⟩
 case round=>
  obtain⟨fr,i,rfl,hfr,hg,hil,hJ⟩:=hrel
  by_cases hend:fr=xs.length
  ·subst hend
   have hlt:((xs.length:Int)<(xs.length:Int))=False:=by simp
   gi_wp2
   go_end0
   rw [List.drop_length,grp_nil] at hg
   have hi:i=(grp xs).length:=by
    have:=congrArg List.length hg
    simp at this;omega
   subst hi
   exact⟨⟨_,rfl⟩,.inl hJ⟩
  ·have hlt:(fr:Int)<(xs.length:Int):=by omega
   have hne:xs.drop fr ≠ []:=fun e=>by have:=congrArg List.length e;simp at this;omega
   have hp:=hdn_pos hne
   have hle:=hdn_le (xs.drop fr)
   rw [zAE] at hle
   have hxne:xs ≠ []:=fun e=>by subst e;simp at hne
   obtain rfl:=ha hxne
   gi_wp2
   gi_loopw [5] (fun p wr=>∃ to:Nat,p=.int .i64 (to:Int)/\fr<=to/\to<=fr+hdn (xs.drop fr)/\J i wr) (fun p _=>xs.length - natOf p)
   case atStart=>exact⟨fr,rfl,Nat.le_refl _,zBb _ _,hJ⟩
   case round=>
    obtain⟨to,rfl,h1,h2,hJ2⟩:=hrel
    have c2:=hC i _ hJ2 fr (by omega)
    by_cases hto:to<fr+hdn (xs.drop fr)
    ·have hk:kyAt xs to=kyAt xs fr:=by
      have e1:=hdn_in (l:=xs.drop fr) (i:=to - fr) (by omega)
      rw [kyAt_drop,kyAt_drop,Nat.add_zero] at e1
      rw [<- e1];congr 1;omega
     have c1:=hC i _ hJ2 to (by omega)
     rw [hk] at c1
     have hlt2:(to:Int)<(xs.length:Int):=by omega
     gi_wp2
     gi_region
     gi_wp2
     go_roundw
     case rel=>exact⟨to+1,by simp,by omega,by omega,hJg _ _ _ hJ2 ((Go.Abs.Below.refl _ wr).drew)⟩
     case measure=>
      simp only [natOf]
      omega
    ·have hge:=zBa hto
     have hget:(grp xs)[i]? = some ((xs.drop fr).take (to - fr)):=by
      have e0:to - fr=hdn (xs.drop fr):=by omega
      rw [e0]
      generalize xs.drop fr=ys at hg hne
      cases ys with
      | nil=>exact absurd rfl hne
      | cons r rest=>
       rw [grp_cons] at hg
       have:=congrArg (fun l=>l[0]?) hg
       simpa using this
     have hnext:(grp xs).drop (i+1)=grp (xs.drop to):=by
      have e0:xs.drop to=(xs.drop fr).drop (hdn (xs.drop fr)):=by rw [zBm];congr 1;omega
      rw [e0]
      generalize xs.drop fr=ys at hg hne
      cases ys with
      | nil=>exact absurd rfl hne
      | cons r rest=>
       rw [grp_cons] at hg
       have:=congrArg List.tail hg
       simpa using this
     have hil2:i+1<=(grp xs).length:=(zP.1 hget).1
     by_cases hlen2:to<xs.length
     ·have c1:=hC i _ hJ2 to hlen2
      have hk:kyAt xs to≠kyAt xs fr:=by
       have e1:=hdn_out (l:=xs.drop fr) (by rw [zAE];omega)
       rw [kyAt_drop,kyAt_drop,Nat.add_zero] at e1
       rw [show to=fr+hdn (xs.drop fr) from by omega];exact e1
      have hkb:(kyAt xs to==kyAt xs fr)=false:=zS hk
      have hlt2:(to:Int)<(xs.length:Int):=by omega
      obtain⟨fn,tmps,assign,body,hy,hR⟩:=hY i fr (to - fr) wr.drew hget (by omega) (by omega) (hJg _ _ _ hJ2 ((Go.Abs.Below.refl _ wr).drew))
      gi_wp2
      gi_region
      gi_wp2_with gi_in
      refine⟨fun h=>(by cases h),hR.mono ?_⟩
      rintro e W3 (⟨rfl,hJ3⟩ | ⟨rfl,hJ3⟩)
      ·gi_wp2
       go_roundw
       case rel=>exact⟨to,i+1,rfl,by omega,hnext,hil2,hJ3⟩
       case measure=>
        simp only [natOf]
        omega
      ·gi_wp2
       refine bodyPost_ret (results_none rfl _ _ _) rfl ?_
       exact⟨⟨_,rfl⟩,.inr hJ3⟩
     ·have hlt2:decide ((to:Int)<(xs.length:Int))=false:=zBA (by omega)
      gi_wp2
      gi_quiet (fail)
      obtain⟨fn,tmps,assign,body,hy,hR⟩:=hY i fr (to - fr) (wr.drewN nq) hget (by omega) (by omega) (hJg _ _ (wr.drewN nq) hJ2 (below_drewN _ _))
      gi_wp2_with gi_in
      refine⟨fun h=>(by cases h),hR.mono ?_⟩
      rintro e W3 (⟨rfl,hJ3⟩ | ⟨rfl,hJ3⟩)
      ·gi_wp2
       go_roundw
       case rel=>exact⟨to,i+1,rfl,by omega,hnext,hil2,hJ3⟩
       case measure=>
        simp only [natOf]
        omega
      ·gi_wp2
       refine bodyPost_ret (results_none rfl _ _ _) rfl ?_
       exact⟨⟨_,rfl⟩,.inr hJ3⟩
theorem yield_wide{r:Option Nat}{n n':Nat}{P:Program}{l:Nat}{args:Array Value}{X:World}{R:Ending->World->Prop}(h:YieldAt (WF r) n P l args X R):YieldAt Fence.wide n' P l args X R:=by
 obtain⟨fn,tmps,c,d,hr,h1,h2⟩:=h
 exact⟨fn,tmps,c,d,hr,h1,fun c cs _=>h2 c cs (room_wide _)⟩
def keyedXs(x:List Rw):List (List Rw):=grp x
abbrev rwS:Sh:=.pair (.int .i64) (.pair (.int .i64) (.int .i64))
theorem rw_key{w:World}{M:Nat->Prop}{x:Rw}{cs:List Value}(h:RC w M rwS x cs):cs[0]? = some (.int .i64 x.1):=by
 simp only [RC] at h
 obtain⟨c,d,rfl,rfl,-⟩:=h
 rfl
theorem sp_keyed:SpecIp Tryd.prog 77 (.sl (.pair (.int .i64) (.pair (.int .i64) (.int .i64)))) (.sl (.pair (.int .i64) (.pair (.int .i64) (.int .i64)))) keyedXs:=by
 intro M M' w x b0 q0 cs hMM hlt hc hrc r n l J Jx W hW hl hl' h0 hg hgx hp hy
 simp only [RC] at hrc
 obtain⟨a,cap,rfl,hlen,hcap,hrow⟩:=hrc
 have hcell:W.cell? ⟨b0,q0,none⟩=some (.slice a x.length cap):=by
  have h1:=(hc 0 _ rfl).1
  rw [Nat.add_zero] at h1
  rw [<- h1]
  refine World.cell?_of_block (w:=w) (hW.block b0 ?_)
  obtain⟨o,ho,-⟩:=cells_of_cell h1
  exact (zH.1 ho).1
 obtain⟨b,q,hab⟩:∃ b q,x ≠ []->a=some ⟨b,q,none⟩/\b<w.heap.size/\¬ M' b/\RowAt (RC w M' rwS) rwS.n w b q x:=by
  by_cases hx:x = []
  ·exact⟨0,0,fun h=>absurd hx h⟩
  ·obtain⟨b,q,h⟩:=hrow hx
   exact⟨b,q,fun _=>h⟩
 have hWW:=h0 W (Go.Abs.Below.refl _ _)
 have hkeep:∀ i X,J W i X->∀ c,c<w.heap.size->¬ M' c->X.heap[c]? = w.heap[c]?:=fun i X hJ c hc1 hc2=>by
  have h1:=(hp W i X hJ).2 c (zM hc1 hW.size) (by omega) fun hm=>hc2 (hMM c hm)
  rw [h1,hW.block c hc1]
 have key:=keyed_in (n - 1) l b q cap x a (fun h=>(hab h).1) hlen hcap (fun i X=>J W i X) (fun X=>Jx W X) (hg W) (fun i X hJ j hj=>by
   have hne:x ≠ []:=fun e=>by subst e;simp at hj
   obtain⟨-,h1,h2,h3⟩:=hab hne
   obtain⟨c,h4,h5⟩:=h3 j (nth (0,0,0) x j) (by simp [nth,hj])
   have h6:=(h4 0 _ (rw_key h5)).1
   rw [Nat.add_zero] at h6
   exact (World.cell?_of_block (w:=w) (hkeep i X hJ b h1 h2)).trans h6) (fun i fr len X hi hfl hlen0 hJ=>by
   have hne:x ≠ []:=fun e=>by subst e;simp at hfl;omega
   obtain⟨-,h1,h2,h3⟩:=hab hne
   refine yield_wide (hy W i _ #[.slice (some ⟨b,q+fr*3,none⟩) len (cap - fr)] X X hi hJ (Go.Abs.Below.refl _ _) ?_)
   simp only [RVs]
   refine⟨_,_,rfl,?_,rfl⟩
   simp only [Go.Abs.enc,RV,RC]
   have hl2:((x.drop fr).take len).length=len:=by rw [zAV,zAE];omega
   refine⟨_,cap - fr,by rw [hl2],by omega,by omega,fun _=>⟨b,q+fr*3,rfl,?_,?_,?_⟩⟩
   ·have:=(hp W i X hJ).1
    have:=hW.size
    omega
   ·rintro⟨-,h | h | h⟩
    ·have:=hW.size;omega
    ·exact h2 h
    ·omega
   ·intro j y hj
    rw [zo] at hj
    split at hj
    ·rw [zAA] at hj
     obtain⟨c,h4,h5⟩:=h3 (fr+j) y hj
     have kp:Keeps w M' X (fun b=>b<X.heap.size/\(W.heap.size<=b\/M' b\/b=l)):=⟨zq hW.size (hp W i X hJ).1,fun c hc1 hc2=>hkeep i X hJ c hc1 hc2,fun c hc1 hc2=>by
      rintro⟨-,h | h | h⟩
      ·have:=hW.size;omega
      ·exact hc2 h
      ·omega⟩
     refine⟨c,?_,RC.keeps kp h5⟩
     have h7:=kp.cells h1 h2 h4
     rwa [zBX,<- zAD] at h7
    ·cases hj) W hWW
 have hin:CallsIn Fence.wide n Tryd.prog 77 #[.func (.yield l) #[] #[],.pointer (some ⟨b0,q0,none⟩)] W fun e W'=>(∃ v,e=.returned v)/\(J W (grp x).length W'\/Jx W W'):=by
  refine callsIn_of_wp Tryd.func77 rfl trivial ?_ rfl
  simp only [Tryd.ntmps77,List.size_toArray,List.length_cons,List.length_nil,Nat.reduceAdd,Nat.reduceSub,zBl,zBk,zBz,zBq,List.nil_append,List.cons_append]
  gi_wp2
  refine⟨trivial,fun h=>(by cases h),key.mono ?_⟩
  rintro e w' ⟨⟨v,rfl⟩,hJ⟩
  gi_wp2
  go_end0
  exact⟨⟨_,rfl⟩,hJ⟩
 exact CallsIn.mono (F:=WF r) hin fun e W' h=>⟨h.1,W,h.2⟩
theorem en_keyed:IEntOk Tryd.prog Gs (mkIp 77 (.sl (.pair (.int .i64) (.pair (.int .i64) (.int .i64)))) (.sl (.pair (.int .i64) (.pair (.int .i64) (.int .i64)))) keyedXs):=entIp ⟨Tryd.f77,bodyOf Tryd.f77,by kernel_rfl,by kernel_rfl,rfl⟩ sp_keyed
end Go.Proofs.YtnhjpicdijeagaaDoor

namespace Go.Bag
open Go.Abs
def rowF(k A B:Int)(r:Row):Option Row:=
 if k=1 then some (w (r.1+A),w (r.2.1+B),r.2.2)
 else if k=2 then some (r.2.1,r.1,r.2.2)
 else if k=3 then (if iand .i64 r.1 A=B then some r else none)
 else some (r.1,r.2.1,w (0 - r.2.2))
def amtO(o:Option Row)(e:Key):Int:=match o with | some r=>if ky r=e then r.2.2 else 0 | none=>0
theorem amt_filterMap(f:Row->Option Row)(r:Row)(l:List Row)(e:Key):amt ((r :: l).filterMap f) e=amtO (f r) e+amt (l.filterMap f) e:=by
 cases q:f r with
 | none=>rw [zBV q];simp [amtO]
 | some s=>rw [zBU q];rfl
end Go.Bag

namespace Go.Proofs.YtnhjpicdijeagaaDoor
open Go.Abs Go.Bag
abbrev gkey(xs:List Row):Int:=kyAt xs 0
theorem tw_split(l:List Row)(k:Int)(hs:l.Pairwise fun a b=>a.1<=b.1)(hk:∀ x∈l,k<=x.1):(l.takeWhile fun s=>s.1==k)=l.filter (fun r=>decide (r.1=k))/\∀ x∈l.dropWhile (fun s=>s.1==k),k<x.1:=by
 induction l with
 | nil=>exact⟨rfl,fun x hx=>(by cases hx)⟩
 | cons y l ih=>
  obtain⟨h1,h2⟩:=zy.1 hs
  obtain⟨i1,i2⟩:=ih h2 fun x hx=>hk x (by simp [hx])
  by_cases q:y.1=k
  ·rw [zBM (by simp [q]),zAU (by simp [q]),List.dropWhile_cons_of_pos (by simp [q]),i1]
   exact⟨rfl,i2⟩
  ·have hky:=hk y (by simp)
   rw [zBN (by simp [q]),zAg (by simp [q]),List.dropWhile_cons_of_neg (by simp [q])]
   refine⟨(zAO.2 fun x hx=>?_).symm,fun x hx=>?_⟩
   ·have:=h1 x hx;simp;omega
   ·rcases zg.1 hx with rfl | hx
    ·omega
    ·have:=h1 x hx;omega
theorem rlt_le{l:List Row}(h:l.Pairwise rlt):l.Pairwise fun a b=>a.1<=b.1:=h.imp fun {a b} h=>by unfold rlt at h;omega
theorem take_tw(l:List Row)(p:Row->Bool):l.take (l.takeWhile p).length=l.takeWhile p/\l.drop (l.takeWhile p).length=l.dropWhile p:=by
 have e:=zBG (p:=p) (l:=l)
 constructor
 ·conv=>lhs;rw [<- e]
  rw [zBG]
  conv=>lhs;arg 2;rw [<- e]
  exact List.take_left' rfl
 ·conv=>lhs;arg 2;rw [<- e]
  exact List.drop_left' rfl
theorem grp_props:∀ (n:Nat) (t:List Row),t.length<=n->t.Pairwise (fun a b=>a.1<=b.1) ->
  (∀ xs∈grp t,xs ≠ []/\xs=t.filter (fun r=>decide (r.1=gkey xs)))/\(grp t).Pairwise (fun xs ys=>gkey xs<gkey ys)/\∀ r∈t,∃ xs∈grp t,gkey xs=r.1:=by
 intro n
 induction n with
 | zero=>
  intro t hl _
  have:t = []:=zZ (by omega)
  subst this
  exact⟨fun xs hx=>(by cases hx),.nil,fun r hr=>(by cases hr)⟩
 | succ n ih=>
  intro t hl hs
  cases t with
  | nil=>exact⟨fun xs hx=>(by cases hx),.nil,fun r hr=>(by cases hr)⟩
  | cons r l=>
   obtain⟨h1,h2⟩:=zy.1 hs
   obtain⟨p1,p2⟩:=tw_split l r.1 h2 h1
   obtain⟨t1,t2⟩:=take_tw l fun s=>s.1==r.1
   have hfirst:(r :: l).take (hdn (r :: l))=(r :: l).filter (fun x=>decide (x.1=r.1)):=by
    show r :: l.take _=_
    rw [t1,p1,zAU (by simp)]
   have hrest:(r :: l).drop (hdn (r :: l))=l.dropWhile fun s=>s.1==r.1:=t2
   rw [grp_cons,hfirst,hrest]
   have hsub:(l.dropWhile fun s=>s.1==r.1).Sublist l:=List.dropWhile_sublist _
   obtain⟨i1,i2,i3⟩:=ih (l.dropWhile fun s=>s.1==r.1) (by have:=hsub.length_le;simp only [List.length_cons] at hl;omega) (h2.sublist hsub)
   have hk0:gkey ((r :: l).filter (fun x=>decide (x.1=r.1)))=r.1:=by
    rw [zAU (by simp)];rfl
   have hmem:∀ ys:List Row,ys ≠ []->∃ y∈ys,y.1=gkey ys:=fun ys hy=>by
    cases ys with
    | nil=>exact absurd rfl hy
    | cons y ys=>exact⟨y,by simp,rfl⟩
   have hgt:∀ xs∈grp (l.dropWhile fun s=>s.1==r.1),r.1<gkey xs:=fun xs hx=>by
    obtain⟨q1,q2⟩:=i1 xs hx
    obtain⟨y,y1,y2⟩:=hmem xs q1
    rw [q2] at y1
    rw [<- y2]
    exact p2 y (zc.1 y1).1
   have hdw:∀ k,k≠r.1->(l.dropWhile fun s=>s.1==r.1).filter (fun x=>decide (x.1=k))=(r :: l).filter (fun x=>decide (x.1=k)):=fun k hk=>by
    rw [zAg (by simp;exact fun e=>hk e.symm)]
    conv=>rhs;rw [<- zBG (p:=fun s:Row=>s.1==r.1) (l:=l)]
    rw [zAI,p1,zBv]
    have:l.filter (fun x=>decide (x.1=k)&&decide (x.1=r.1)) = []:=zAO.2 fun x _=>by
     simp only [zA,zQ]
     rintro⟨e1,e2⟩
     exact hk (e1.symm.trans e2)
    rw [this,List.nil_append]
   refine⟨fun xs hx=>?_,zy.2 ⟨fun xs hx=>by rw [hk0];exact hgt xs hx,i2⟩,fun x hx=>?_⟩
   ·rcases zg.1 hx with rfl | hx
    ·rw [hk0]
     exact⟨by rw [zAU (by simp)];simp,rfl⟩
    ·obtain⟨q1,q2⟩:=i1 xs hx
     refine⟨q1,?_⟩
     rw [<- hdw _ (by have:=hgt xs hx;omega)]
     exact q2
   ·by_cases q:x.1=r.1
    ·exact⟨_,zAP ..,by rw [hk0,q]⟩
    ·have hxl:x∈l.dropWhile fun s=>s.1==r.1:=by
      have:x∈(r :: l).filter (fun y=>decide (y.1=x.1)):=zc.2 ⟨hx,by simp⟩
      rw [<- hdw _ q] at this
      exact (zc.1 this).1
     obtain⟨xs,x1,x2⟩:=i3 x hxl
     exact⟨xs,zf _ x1,x2⟩
def vsum:List Row->Int
 | []=>0
 | r :: l=>r.2.1*r.2.2+vsum l
def hv(kind:Int)(xs:List Row):Option Int:=
 if kind=5 then some (w (vsum xs)) else if kind=6 then some (w (tot xs)) else if kind=8 then ((xs.find? fun r=>decide (r.2.2>0)).map fun r=>r.2.1) else some 0
def rowG(kind:Int)(xs:List Row):Option Row:=(hv kind xs).map fun v=>(gkey xs,v,1)
def oneR(r:Row):Row:=(r.1,r.2.1,1)
def outG(kind:Int)(t:List Row):List Row:=if kind=7 then (t.filter fun r=>decide (r.2.2>0)).map oneR else (grp t).filterMap (rowG kind)
end Go.Proofs.YtnhjpicdijeagaaDoor

namespace Go.Bag
open Go.Abs
def jrow(A B:Int)(r s:Row):Row:=(r.1,w (w (A*r.2.1)+w (B*s.2.1)),w (r.2.2*s.2.2))
def JL1(A B:Int)(b:List Row)(r:Row):List Row:=(b.filter fun s=>decide (s.1=r.1)).map (jrow A B r)
def JL(A B:Int)(a b:List Row):List Row:=a.flatMap (JL1 A B b)
theorem JL1_len(A B:Int)(b:List Row)(r:Row):(JL1 A B b r).length<=b.length:=by
 unfold JL1;rw [zAR];exact zAX _ _
theorem JL_len(A B:Int)(a b:List Row):(JL A B a b).length<=a.length*b.length:=by
 unfold JL
 induction a with
 | nil=>simp
 | cons r a ih=>
  have:=JL1_len A B b r
  rw [List.flatMap_cons,zw,List.length_cons,zAJ]
  omega
end Go.Bag
