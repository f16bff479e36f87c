import Derived.Test.YtcjecibocjbdmaaBagsS
noncomputable section
namespace Go.Proofs.Ytcjecibocjbdmaa
open Go.Abs
abbrev Sm:Sh:=.pair (.int .i64) (.int .i64)
abbrev Sl:Sh:=.pair (.int .i64) (.pair (.int .i64) (.int .i64))
abbrev Yf:Type:=Int×(Int×Int)×Int
abbrev Ye:Type:=Int×Int×Int
abbrev Yd:Type:=Int×List (Int×(Int×Int)×Int)
abbrev Ks_crew_check:List Kd:=[.dat (.int .i64),.dat (.sl (.sl Sl))]
abbrev Rk_crew_check:List Kd:=[.dat (.int .i64)]
abbrev Rt_crew_check:Type:=Dens Rk_crew_check
def C_crew_check(_N:Nat):Ctx:={ T:=[],G:=findE [mkP 45 Ks_bags_Large Rk_bags_Large (D_bags_Large _N)],I:=findI [],N:=_N,n:=13,fx:=[],fl:=0,gs:=[] }
def crew_check_1(_N:Nat)(_x1:Int)(_x2:List (List Ye)):Option Rt_crew_check:=
 (bif (decide (_x1<(1:Int))) then (some ((2:Int),())) else (bif (decide (_x1>(4:Int))) then (some ((2:Int),())) else ((D_bags_Large _N (_x2,())).bind fun _y2=>(bif _y2.1 then (some ((1:Int),())) else (some ((0:Int),()))))))
def D_crew_check(_N:Nat)(_x:Dens Ks_crew_check):Option Rt_crew_check:=crew_check_1 _N _x.1 _x.2.1
theorem sp_crew_check(_N:Nat):SpecD Try.prog [] 29 Ks_crew_check Rk_crew_check (D_crew_check _N):=mkSpD (fn:=Try.f29) (c:=bodyOf Try.f29) (C:=C_crew_check _N)
  (a:=.none)
  (by kernel_rfl) rfl (by kernel_rfl) (by kernel_rfl) ⟨rfl,by unfold TOk;kernel_rfl,gOk_of rfl rfl (zR.2 ⟨en_bags_Large _N,(zH _)⟩),iOk_of rfl rfl (zH _),rfl⟩ (fun _x=>by kernel_rfl)
theorem en_crew_check(_N:Nat):EntOk Try.prog [] (mkP 29 Ks_crew_check Rk_crew_check (D_crew_check _N)):=entP ⟨Try.f29,bodyOf Try.f29,by kernel_rfl,by kernel_rfl,rfl⟩ (by kernel_rfl) (sp_crew_check _N)
abbrev Sg_crew_split_h:Sig:=⟨[.dat false (.int .i64),.dat false (.sl Sl)],[],
 [.form (.rptr 0 0 2000000)],[.kds 0 (.row 78) (.map ⟨false,105,2,.pair (.int .i64) (.int .i64),.int .i64,false⟩)],[]⟩
abbrev Rt_crew_split_h:Type:=Nat×(List Yd)
def C_crew_split_h(_N:Nat):Ctx:={ T:=[(2,⟨.int .i64,1,8,some (.int .i64),[.int .i64 (0:Int)],false,[]⟩),(36,⟨.slice 41,1,24,some (.sl Sl),[.nil],false,[]⟩),(41,⟨.struct [(0,2),(1,2),(2,2)],3,24,some Sl,[.int .i64 (0:Int),.int .i64 (0:Int),.int .i64 (0:Int)],true,[]⟩),(75,⟨.slice 78,1,24,none,[.nil],false,[]⟩),(78,⟨.map 105 2 Sm (.int .i64),1,8,none,[.nl .map],false,[]⟩),(105,⟨.struct [(0,2),(1,2)],2,16,some Sm,[.int .i64 (0:Int),.int .i64 (0:Int)],true,[]⟩)],G:=findE [mkHe 46 Sg_bags_Bag_Add_h (D_bags_Bag_Add_h _N)],I:=findI [],N:=_N,n:=51,fx:=[],fl:=0,gs:=[],kr:=[(75,.map ⟨false,105,2,.pair (.int .i64) (.int .i64),.int .i64,false⟩)] }
def crew_split_h_1(_N:Nat)(_v25:Nat)(_v26:List Yd):Option Rt_crew_split_h:=
 (some (_v25,_v26))
def crew_split_h_2(_N:Nat)(_k27:(Nat×(List Yd))->Option Rt_crew_split_h)(_v11:Int)(_v12:Nat)(_v13:List Ye)(_v14:Int)(_v15:Int)(_v16:List Yd)(_kn28:(Int×Nat×(List Ye)×Int)×(Int×(List Yd))->Option Rt_crew_split_h):Option Rt_crew_split_h:=
 (bif (decide (_v15<_v14)) then (bif (decide (0<=_v15)&&decide (_v15<(_v13.length:Int))) then (bif (_v11==0) then none else (bif (decide ((((nth ((0:Int),((0:Int),(0:Int))) _v13 (_v15).toNat).1).tmod _v11)<(0:Int))) then (bif (decide (0<=(IntKind.i64.wrap ((((nth ((0:Int),((0:Int),(0:Int))) _v13 (_v15).toNat).1).tmod _v11)+_v11)))&&decide ((IntKind.i64.wrap ((((nth ((0:Int),((0:Int),(0:Int))) _v13 (_v15).toNat).1).tmod _v11)+_v11))<(_v16.length:Int))) then (bif (decide (0<=(nth ((0:Int),[]) _v16 ((IntKind.i64.wrap ((((nth ((0:Int),((0:Int),(0:Int))) _v13 (_v15).toNat).1).tmod _v11)+_v11)).toNat)).1)) then ((D_bags_Bag_Add_h _N (((nth ((0:Int),((0:Int),(0:Int))) _v13 (_v15).toNat).1,((nth ((0:Int),((0:Int),(0:Int))) _v13 (_v15).toNat).2).1),((nth ((0:Int),((0:Int),(0:Int))) _v13 (_v15).toNat).2).2,(nth ((0:Int),[]) _v16 ((IntKind.i64.wrap ((((nth ((0:Int),((0:Int),(0:Int))) _v13 (_v15).toNat).1).tmod _v11)+_v11)).toNat)))).bind fun _y30=>(_kn28 ((_v11,_v12,_v13,_v14),((IntKind.i64.wrap (_v15+(1:Int))),(_v16.set ((IntKind.i64.wrap ((((nth ((0:Int),((0:Int),(0:Int))) _v13 (_v15).toNat).1).tmod _v11)+_v11)).toNat) _y30))))) else none) else none) else (bif (decide (0<=(((nth ((0:Int),((0:Int),(0:Int))) _v13 (_v15).toNat).1).tmod _v11))&&decide ((((nth ((0:Int),((0:Int),(0:Int))) _v13 (_v15).toNat).1).tmod _v11)<(_v16.length:Int))) then (bif (decide (0<=(nth ((0:Int),[]) _v16 ((((nth ((0:Int),((0:Int),(0:Int))) _v13 (_v15).toNat).1).tmod _v11).toNat)).1)) then ((D_bags_Bag_Add_h _N (((nth ((0:Int),((0:Int),(0:Int))) _v13 (_v15).toNat).1,((nth ((0:Int),((0:Int),(0:Int))) _v13 (_v15).toNat).2).1),((nth ((0:Int),((0:Int),(0:Int))) _v13 (_v15).toNat).2).2,(nth ((0:Int),[]) _v16 ((((nth ((0:Int),((0:Int),(0:Int))) _v13 (_v15).toNat).1).tmod _v11).toNat)))).bind fun _y32=>(_kn28 ((_v11,_v12,_v13,_v14),((IntKind.i64.wrap (_v15+(1:Int))),(_v16.set ((((nth ((0:Int),((0:Int),(0:Int))) _v13 (_v15).toNat).1).tmod _v11).toNat) _y32))))) else none) else none))) else none) else (_k27 (_v12,_v16)))
def crew_split_h_3(_N:Nat)(_v7:Int)(_v8:List Ye)(_v9:Nat)(_v10:List Yd):Option Rt_crew_split_h:=
 (joinD (fun (_s:Nat×(List Yd))=>crew_split_h_1 _N _s.1 _s.2) fun _k27=>(loopE (fun (_c:Int×Nat×(List Ye)×Int) (_s:Int×(List Yd)) _kn=>crew_split_h_2 _N _k27 _c.1 _c.2.1 _c.2.2.1 _c.2.2.2 _s.1 _s.2 _kn) _N (_v7,_v9,_v8,(_v8.length:Int)) ((0:Int),_v10)))
def crew_split_h_4(_N:Nat)(_k33:(Int×(List Ye)×Nat×(List Yd))->Option Rt_crew_split_h)(_v1:Int)(_v2:List Ye)(_v3:Nat)(_v4:Int)(_v5:Int)(_v6:List Yd)(_kn34:(Int×(List Ye)×Nat×Int)×(Int×(List Yd))->Option Rt_crew_split_h):Option Rt_crew_split_h:=
 (bif (decide (_v5<_v4)) then (bif (decide (0<=_v5)&&decide (_v5<(_v6.length:Int))) then (_kn34 ((_v1,_v2,_v3,_v4),((IntKind.i64.wrap (_v5+(1:Int))),(_v6.set ((_v5).toNat) ((0:Int),([]:List Yf)))))) else none) else (_k33 (_v1,_v2,_v3,_v6)))
def crew_split_h_5(_N:Nat)(_x1:Int)(_x2:List Ye):Option Rt_crew_split_h:=
 (bif (decide (0<=_x1)&&(decide (_x1<=_x1)&&decide (_x1*8<=281474976710656))) then (joinD (fun (_s:Int×(List Ye)×Nat×(List Yd))=>crew_split_h_3 _N _s.1 _s.2.1 _s.2.2.1 _s.2.2.2) fun _k33=>(loopE (fun (_c:Int×(List Ye)×Nat×Int) (_s:Int×(List Yd)) _kn=>crew_split_h_4 _N _k33 _c.1 _c.2.1 _c.2.2.1 _c.2.2.2 _s.1 _s.2 _kn) _N (_x1,_x2,0,((List.replicate _x1.toNat (((-1:Int),[]):Int×List Yf)).length:Int)) ((0:Int),(List.replicate _x1.toNat (((-1:Int),[]):Int×List Yf))))) else none)
def D_crew_split_h(_N:Nat)(_x:Int×(List Ye)):Option Rt_crew_split_h:=crew_split_h_5 _N _x.1 _x.2
theorem sp_crew_split_h(_N:Nat):SpecH Try.prog [] 30 Sg_crew_split_h (D_crew_split_h _N):=mkSpH (fn:=Try.f30) (c:=bodyOf Try.f30) (C:=(C_crew_split_h _N))
  (a:=.two .none (.two .none (.join 1 ⟨[(0,.int .i64),(1,.sl Sl),(5,.rptr 0 0 2000000)],[.kds 0 (.row 78) (.map ⟨false,105,2,.pair (.int .i64) (.int .i64),.int .i64,false⟩)]⟩ (.two .none (.one (.loop 1 ⟨[(0,.int .i64),(1,.sl Sl),(5,.rptr 0 0 2000000),(13,.int .i64),(14,.int .i64)],[.kds 0 (.row 78) (.map ⟨false,105,2,.pair (.int .i64) (.int .i64),.int .i64,false⟩)]⟩ [4,5] .none))) (.join 1 ⟨[(5,.rptr 0 0 2000000)],[.kds 0 (.row 78) (.map ⟨false,105,2,.pair (.int .i64) (.int .i64),.int .i64,false⟩)]⟩ (.two .none (.one (.loop 1 ⟨[(0,.int .i64),(5,.rptr 0 0 2000000),(22,.sl Sl),(23,.int .i64),(24,.int .i64)],[.kds 0 (.row 78) (.map ⟨false,105,2,.pair (.int .i64) (.int .i64),.int .i64,false⟩)]⟩ [4,5] (.two .none (.two .none (.two (.one (.two .none (.two .none (.two .none (.draw 1 [.pure,.pure,.rd [0],.wr [2,0],.pure,.rd [1],.pure,.rd [1],.pure,.pure,.rd [1],.wr [2]]))))) (.cls 0 .none))))))) .none))))
  (by kernel_rfl) rfl (by kernel_rfl) (by kernel_rfl) (by kernel_rfl) rfl ⟨rfl,by unfold TOk;kernel_rfl,gOk_of rfl rfl (zR.2 ⟨en_bags_Bag_Add_h _N,(zH _)⟩),iOk_of rfl rfl (zH _),rfl⟩ (fun _x=>by kernel_rfl)
theorem en_crew_split_h(_N:Nat):EntOk Try.prog [] (mkHe 30 Sg_crew_split_h (D_crew_split_h _N)):=entH ⟨Try.f30,bodyOf Try.f30,by kernel_rfl,by kernel_rfl,rfl⟩ (sp_crew_split_h _N)
abbrev Ks_crew_Shares:List Kd:=[.dat (.int .i64),.dat (.sl Sl)]
abbrev Rk_crew_Shares:List Kd:=[.dat (.sl (.sl Sl)),.dat (.int .i64)]
abbrev Rt_crew_Shares:Type:=Dens Rk_crew_Shares
def C_crew_Shares(_N:Nat):Ctx:={ T:=[(36,⟨.slice 41,1,24,some (.sl Sl),[.nil],false,[]⟩),(37,⟨.slice 36,1,24,some (.sl (.sl Sl)),[.nil],false,[]⟩),(75,⟨.slice 78,1,24,none,[.nil],false,[]⟩),(78,⟨.map 105 2 Sm (.int .i64),1,8,none,[.nl .map],false,[]⟩)],G:=findE [mkP 29 Ks_crew_check Rk_crew_check (D_crew_check _N),mkHe 30 Sg_crew_split_h (D_crew_split_h _N),mkHe 31 Sg_bags_Bag_Rows_h (D_bags_Bag_Rows_h _N)],I:=findI [],N:=_N,n:=32,fx:=[2],fl:=0,gs:=[] }
def crew_Shares_1(_N:Nat)(_v11:List (List Ye)):Option Rt_crew_Shares:=
 (some (_v11,(0:Int),()))
def crew_Shares_2(_N:Nat)(_k13:(List (List Ye))->Option Rt_crew_Shares)(_v3:Nat)(_v4:Int)(_v5:Int)(_v6:List Yd)(_v8:List (List Ye))(_kn15:(Nat×Int)×(Int×(List Yd)×(List (List Ye)))->Option Rt_crew_Shares):Option Rt_crew_Shares:=
 (bif (decide (_v5<_v4)) then (bif (decide (0<=_v5)&&decide (_v5<(_v6.length:Int))) then (bif (decide (0<=(nth ((0:Int),[]) _v6 ((_v5).toNat)).1)) then ((D_bags_Bag_Rows_h _N (nth ((0:Int),[]) _v6 ((_v5).toNat))).bind fun _y16=>(bif (decide ((_v8.length+([_y16.1]).length)*24<=140737488355328)&&Nat.ble 1 24) then (_kn15 ((_v3,_v4),((IntKind.i64.wrap (_v5+(1:Int))),(_v6.set ((_v5).toNat) ((-1:Int),[])),(_v8 ++ [_y16.1])))) else none)) else none) else none) else (_k13 _v8))
def crew_Shares_3(_N:Nat)(_x1:Int)(_x2:List Ye):Option Rt_crew_Shares:=
 ((D_crew_check _N (_x1,[_x2],())).bind fun _y12=>(bif (_y12.1 != (0:Int)) then (some ([],_y12.1,())) else (joinD (fun (_s:(List (List Ye)))=>crew_Shares_1 _N _s) fun _k13=>((D_crew_split_h _N (_x1,_x2)).bind fun _y14=>(loopE (fun (_c:Nat×Int) (_s:Int×(List Yd)×(List (List Ye))) _kn=>crew_Shares_2 _N _k13 _c.1 _c.2 _s.1 _s.2.1 _s.2.2 _kn) _N (_y14.1,(_y14.2.length:Int)) ((0:Int),_y14.2,[]))))))
def D_crew_Shares(_N:Nat)(_x:Dens Ks_crew_Shares):Option Rt_crew_Shares:=crew_Shares_3 _N _x.1 _x.2.1
theorem sp_crew_Shares(_N:Nat):SpecD Try.prog [] 13 Ks_crew_Shares Rk_crew_Shares (D_crew_Shares _N):=mkSpD (fn:=Try.f13) (c:=bodyOf Try.f13) (C:=C_crew_Shares _N)
  (a:=.two .none (.two .none (.two .none (.join 3 ⟨[(7,.slc 2 0)],[.none,.none,.row false 0 36 (.sl Sl)]⟩ (.two .none (.one (.obj 7 36 (.sl Sl) (.loop 3 ⟨[(7,.slc 2 0),(19,.rptr 1 0 2000000),(20,.int .i64),(21,.int .i64)],[.none,.kds 0 (.row 78) (.map ⟨false,105,2,.pair (.int .i64) (.int .i64),.int .i64,false⟩),.row false 0 36 (.sl Sl)]⟩ [2,3,4] (.two .none (.two .none (.two .none (.los 1 .none)))))))) .none))))
  (by kernel_rfl) rfl (by kernel_rfl) (by kernel_rfl) ⟨rfl,by unfold TOk;kernel_rfl,gOk_of rfl rfl (zR.2 ⟨en_crew_check _N,(zR.2 ⟨en_crew_split_h _N,(zR.2 ⟨en_bags_Bag_Rows_h _N,(zH _)⟩)⟩)⟩),iOk_of rfl rfl (zH _),rfl⟩ (fun _x=>by kernel_rfl)
theorem qen_crew_Shares(_N:Nat):EntOk Try.prog [] (mkQ 13 Ks_crew_Shares Rk_crew_Shares (D_crew_Shares _N)):=entQ ⟨Try.f13,bodyOf Try.f13,by kernel_rfl,by kernel_rfl,rfl⟩ (sp_crew_Shares _N)
abbrev Ks_keep_keyed:List Kd:=[.dat (.sl Sl),.dat (.int .i64)]
abbrev Rt_keep_keyed:Type:=List Ye
def C_keep_keyed(_N:Nat):Ctx:={ T:=[(2,⟨.int .i64,1,8,some (.int .i64),[.int .i64 (0:Int)],false,[]⟩),(36,⟨.slice 41,1,24,some (.sl Sl),[.nil],false,[]⟩),(41,⟨.struct [(0,2),(1,2),(2,2)],3,24,some Sl,[.int .i64 (0:Int),.int .i64 (0:Int),.int .i64 (0:Int)],true,[]⟩)],G:=findE [],I:=findI [],N:=_N,n:=24,fx:=[0],fl:=0,gs:=[] }
def keep_keyed_1(_N:Nat)(_v6:List Ye):Option Rt_keep_keyed:=
 (some _v6)
def keep_keyed_2(_N:Nat)(_k7:(List Ye)->Option Rt_keep_keyed)(_v1:Int)(_v2:List Ye)(_v3:Int)(_v4:Int)(_v5:List Ye)(_kn8:(Int×(List Ye)×Int)×(Int×(List Ye))->Option Rt_keep_keyed):Option Rt_keep_keyed:=
 (bif (decide (_v4<_v3)) then (bif (decide (0<=_v4)&&decide (_v4<(_v2.length:Int))) then (bif (((nth ((0:Int),((0:Int),(0:Int))) _v2 (_v4).toNat).1)==_v1) then (bif (decide ((_v5.length+([((nth ((0:Int),((0:Int),(0:Int))) _v2 (_v4).toNat).1,(((nth ((0:Int),((0:Int),(0:Int))) _v2 (_v4).toNat).2).1,((nth ((0:Int),((0:Int),(0:Int))) _v2 (_v4).toNat).2).2))]).length)*24<=140737488355328)&&Nat.ble 1 24) then (_kn8 ((_v1,_v2,_v3),((IntKind.i64.wrap (_v4+(1:Int))),(_v5 ++ [((nth ((0:Int),((0:Int),(0:Int))) _v2 (_v4).toNat).1,(((nth ((0:Int),((0:Int),(0:Int))) _v2 (_v4).toNat).2).1,((nth ((0:Int),((0:Int),(0:Int))) _v2 (_v4).toNat).2).2))])))) else none) else (_kn8 ((_v1,_v2,_v3),((IntKind.i64.wrap (_v4+(1:Int))),_v5)))) else none) else (_k7 _v5))
def keep_keyed_3(_N:Nat)(_x1:List Ye)(_x2:Int):Option Rt_keep_keyed:=
 (joinD (fun (_s:(List Ye))=>keep_keyed_1 _N _s) fun _k7=>(loopE (fun (_c:Int×(List Ye)×Int) (_s:Int×(List Ye)) _kn=>keep_keyed_2 _N _k7 _c.1 _c.2.1 _c.2.2 _s.1 _s.2 _kn) _N (_x2,_x1,(_x1.length:Int)) ((0:Int),[])))
def D_keep_keyed(_N:Nat)(_x:Dens Ks_keep_keyed):Option Rt_keep_keyed:=keep_keyed_3 _N _x.1 _x.2.1
theorem sp_keep_keyed(_N:Nat):SpecF Try.prog [] 14 Ks_keep_keyed 41 Sl (D_keep_keyed _N):=mkSpF (fn:=Try.f14) (c:=bodyOf Try.f14) (C:=C_keep_keyed _N)
  (a:=.two .none (.two .none (.join 1 ⟨[(5,.slc 0 0)],[.row false 0 41 Sl]⟩ (.two .none (.one (.obj 5 41 Sl (.loop 1 ⟨[(1,.int .i64),(5,.slc 0 0),(8,.sl Sl),(9,.int .i64),(10,.int .i64)],[.row false 0 41 Sl]⟩ [3,4] .none)))) .none)))
  (by kernel_rfl) rfl (by kernel_rfl) (by kernel_rfl) ⟨rfl,by unfold TOk;kernel_rfl,gOk_of rfl rfl (zH _),iOk_of rfl rfl (zH _),rfl⟩ (fun _x=>by kernel_rfl)
theorem qen_keep_keyed(_N:Nat):EntOk Try.prog [] (mkQ 14 Ks_keep_keyed [.dat (.sl Sl)] (fun _x=>(D_keep_keyed _N _x).map fun _y=>(_y,()))):=entQ ⟨Try.f14,bodyOf Try.f14,by kernel_rfl,by kernel_rfl,rfl⟩ (specD_of_F (sp_keep_keyed _N))
end Go.Proofs.Ytcjecibocjbdmaa
end
