import Derived.Test.YtcjecibocjbdmaaBagsS
noncomputable section
namespace Go.Proofs.Ytcjecibocjbdmaa
open Go.Abs
abbrev Sl:Sh:=.sl (.int .i64)
abbrev Sj:Sh:=.pair (.sl (.int .i64)) (.sl (.pair (.int .i64) (.pair (.int .i64) (.int .i64))))
abbrev Ye:Type:=List (List Int)×List (List Int)×Int
abbrev Yd:Type:=List Int×List (Int×Int×Int)
abbrev Ks_times_Check:List Kd:=[.dat Sl]
abbrev Rk_times_Check:List Kd:=[.dat (.int .i64)]
abbrev Rt_times_Check:Type:=Dens Rk_times_Check
def C_times_Check(_N:Nat):Ctx:={ T:=[(3,⟨.int .i64,1,8,some (.int .i64),[.int .i64 (0:Int)],false,[]⟩),(48,⟨.slice 3,1,24,some Sl,[.nil],false,[]⟩)],G:=findE [],I:=findI [],N:=_N,n:=26,fx:=[],fl:=0,gs:=[] }
def times_Check_1(_N:Nat):Option Rt_times_Check:=
 (some ((0:Int),()))
def times_Check_2(_N:Nat)(_k4:Unit->Option Rt_times_Check)(_v1:List Int)(_v2:Int)(_v3:Int)(_kn5:(List Int×Int)×Int->Option Rt_times_Check):Option Rt_times_Check:=
 (bif (decide (_v3<_v2)) then (bif (decide (0<=_v3)&&decide (_v3<(_v1.length:Int))) then (bif (decide ((nth (0:Int) _v1 (_v3).toNat)<(0:Int))) then (some ((2:Int),())) else (bif (decide ((nth (0:Int) _v1 (_v3).toNat)>(1048576:Int))) then (some ((2:Int),())) else (_kn5 ((_v1,_v2),(IntKind.i64.wrap (_v3+(1:Int))))))) else none) else (_k4 ()))
def times_Check_3(_N:Nat)(_x1:List Int):Option Rt_times_Check:=
 (bif ((_x1.length:Int)==(0:Int)) then (some ((1:Int),())) else (bif (decide ((_x1.length:Int)>(4:Int))) then (some ((1:Int),())) else (joinD (fun (_s:Unit)=>times_Check_1 _N) fun _k4=>(loopE (fun (_c:List Int×Int) (_s:Int) _kn=>times_Check_2 _N _k4 _c.1 _c.2 _s _kn) _N (_x1,(_x1.length:Int)) (0:Int)))))
def D_times_Check(_N:Nat)(_x:Dens Ks_times_Check):Option Rt_times_Check:=times_Check_3 _N _x.1
theorem sp_times_Check(_N:Nat):SpecD Try.prog [] 53 Ks_times_Check Rk_times_Check (D_times_Check _N):=mkSpD (fn:=Try.f53) (c:=bodyOf Try.f53) (C:=C_times_Check _N)
  (a:=.two .none (.two .none (.join 0 ⟨[],[]⟩ (.two .none (.one (.loop 0 ⟨[(13,.sl (.int .i64)),(14,.int .i64),(15,.int .i64)],[]⟩ [2] .none))) .none)))
  (by kernel_rfl) rfl (by kernel_rfl) (by kernel_rfl) ⟨rfl,by unfold TOk;kernel_rfl,gOk_of rfl rfl (zH _),iOk_of rfl rfl (zH _),rfl⟩ (fun _x=>by kernel_rfl)
theorem en_times_Check(_N:Nat):EntOk Try.prog [] (mkP 53 Ks_times_Check Rk_times_Check (D_times_Check _N)):=entP ⟨Try.f53,bodyOf Try.f53,by kernel_rfl,by kernel_rfl,rfl⟩ (by kernel_rfl) (sp_times_Check _N)
abbrev Ks_times_List:List Kd:=[.dat (.sl Sl)]
abbrev Rk_times_List:List Kd:=[.dat (.int .i64)]
abbrev Rt_times_List:Type:=Dens Rk_times_List
def C_times_List(_N:Nat):Ctx:={ T:=[(47,⟨.slice 48,1,24,some (.sl Sl),[.nil],false,[]⟩),(48,⟨.slice 3,1,24,some Sl,[.nil],false,[]⟩)],G:=findE [mkP 53 Ks_times_Check Rk_times_Check (D_times_Check _N)],I:=findI [],N:=_N,n:=37,fx:=[],fl:=0,gs:=[] }
def times_List_1(_N:Nat):Option Rt_times_List:=
 (some ((0:Int),()))
def times_List_2(_N:Nat)(_k12:Unit->Option Rt_times_List)(_v8:List (List Int))(_v9:List (List Int))(_v10:Int)(_v11:Int)(_kn13:Ye×Int->Option Rt_times_List):Option Rt_times_List:=
 (bif (decide (_v11<_v10)) then (bif (decide (0<=_v11)&&decide (_v11<(_v9.length:Int))) then (bif (decide (0<=(0:Int))&&decide ((0:Int)<(_v8.length:Int))) then (bif (((nth ([]) _v9 (_v11).toNat).length:Int) != ((nth ([]) _v8 (0:Int).toNat).length:Int)) then (some ((3:Int),())) else (_kn13 ((_v8,_v9,_v10),(IntKind.i64.wrap (_v11+(1:Int)))))) else none) else none) else (_k12 ()))
def times_List_3(_N:Nat)(_v7:List (List Int)):Option Rt_times_List:=
 (joinD (fun (_s:Unit)=>times_List_1 _N) fun _k12=>(loopE (fun (_c:List (List Int)×List (List Int)×Int) (_s:Int) _kn=>times_List_2 _N _k12 _c.1 _c.2.1 _c.2.2 _s _kn) _N (_v7,_v7,(_v7.length:Int)) (0:Int)))
def times_List_4(_N:Nat)(_k14:(List (List Int))->Option Rt_times_List)(_v1:List (List Int))(_v2:List (List Int))(_v3:Int)(_v4:Int)(_kn15:Ye×Int->Option Rt_times_List):Option Rt_times_List:=
 (bif (decide (_v4<_v3)) then (bif (decide (0<=_v4)&&decide (_v4<(_v2.length:Int))) then ((D_times_Check _N ((nth ([]) _v2 (_v4).toNat),())).bind fun _y16=>(bif (_y16.1 != (0:Int)) then (some (_y16.1,())) else (_kn15 ((_v1,_v2,_v3),(IntKind.i64.wrap (_v4+(1:Int))))))) else none) else (_k14 _v1))
def times_List_5(_N:Nat)(_x1:List (List Int)):Option Rt_times_List:=
 (bif (decide ((_x1.length:Int)>(64:Int))) then (some ((1:Int),())) else (joinD (fun (_s:List (List Int))=>times_List_3 _N _s) fun _k14=>(loopE (fun (_c:List (List Int)×List (List Int)×Int) (_s:Int) _kn=>times_List_4 _N _k14 _c.1 _c.2.1 _c.2.2 _s _kn) _N (_x1,_x1,(_x1.length:Int)) (0:Int))))
def D_times_List(_N:Nat)(_x:Dens Ks_times_List):Option Rt_times_List:=times_List_5 _N _x.1
theorem sp_times_List(_N:Nat):SpecD Try.prog [] 34 Ks_times_List Rk_times_List (D_times_List _N):=mkSpD (fn:=Try.f34) (c:=bodyOf Try.f34) (C:=C_times_List _N)
  (a:=.two .none (.two .none (.join 0 ⟨[(0,.sl Sl)],[]⟩ (.two .none (.one (.loop 0 ⟨[(0,.sl Sl),(11,.sl Sl),(12,.int .i64),(13,.int .i64)],[]⟩ [3] .none))) (.join 0 ⟨[],[]⟩ (.two .none (.one (.loop 0 ⟨[(0,.sl Sl),(23,.sl Sl),(24,.int .i64),(25,.int .i64)],[]⟩ [3] .none))) .none))))
  (by kernel_rfl) rfl (by kernel_rfl) (by kernel_rfl) ⟨rfl,by unfold TOk;kernel_rfl,gOk_of rfl rfl (zY.2 ⟨en_times_Check _N,(zH _)⟩),iOk_of rfl rfl (zH _),rfl⟩ (fun _x=>by kernel_rfl)
theorem en_times_List(_N:Nat):EntOk Try.prog [] (mkP 34 Ks_times_List Rk_times_List (D_times_List _N)):=entP ⟨Try.f34,bodyOf Try.f34,by kernel_rfl,by kernel_rfl,rfl⟩ (by kernel_rfl) (sp_times_List _N)
abbrev Ks_diffs_Times:List Kd:=[.dat (.sl Sj)]
abbrev Rt_diffs_Times:Type:=List (List Int)
def C_diffs_Times(_N:Nat):Ctx:={ T:=[(47,⟨.slice 48,1,24,some (.sl Sl),[.nil],false,[]⟩),(48,⟨.slice 3,1,24,some Sl,[.nil],false,[]⟩),(53,⟨.slice 59,1,24,some (.sl Sj),[.nil],false,[]⟩),(59,⟨.struct [(0,48),(1,36)],2,48,some Sj,[.nil,.nil],false,[]⟩)],G:=findE [],I:=findI [],N:=_N,n:=19,fx:=[0],fl:=0,gs:=[] }
def diffs_Times_1(_N:Nat)(_v5:List (List Int)):Option Rt_diffs_Times:=
 (some _v5)
def diffs_Times_2(_N:Nat)(_k6:(List (List Int))->Option Rt_diffs_Times)(_v1:List Yd)(_v2:Int)(_v3:Int)(_v4:List (List Int))(_kn7:((List Yd)×Int)×(Int×List (List Int))->Option Rt_diffs_Times):Option Rt_diffs_Times:=
 (bif (decide (_v3<_v2)) then (bif (decide (0<=_v3)&&decide (_v3<(_v1.length:Int))) then (bif (decide ((_v4.length+([(nth ([],[]) _v1 (_v3).toNat).1]:List (List Int)).length)*24<=140737488355328)&&Nat.ble 1 24) then (_kn7 ((_v1,_v2),((IntKind.i64.wrap (_v3+(1:Int))),(_v4++([(nth ([],[]) _v1 (_v3).toNat).1]:List (List Int)))))) else none) else none) else (_k6 _v4))
def diffs_Times_3(_N:Nat)(_x1:List Yd):Option Rt_diffs_Times:=
 (joinD (fun (_s:List (List Int))=>diffs_Times_1 _N _s) fun _k6=>(loopE (fun (_c:(List Yd)×Int) (_s:Int×List (List Int)) _kn=>diffs_Times_2 _N _k6 _c.1 _c.2 _s.1 _s.2 _kn) _N (_x1,(_x1.length:Int)) ((0:Int),[])))
def D_diffs_Times(_N:Nat)(_x:Dens Ks_diffs_Times):Option Rt_diffs_Times:=diffs_Times_3 _N _x.1
theorem sp_diffs_Times(_N:Nat):SpecF Try.prog [] 61 Ks_diffs_Times 48 Sl (D_diffs_Times _N):=mkSpF (fn:=Try.f61) (c:=bodyOf Try.f61) (C:=C_diffs_Times _N)
  (a:=.two .none (.two .none (.join 1 ⟨[(3,.slc 0 0)],[.row false 0 48 Sl]⟩ (.two .none (.one (.obj 3 48 Sl (.loop 1 ⟨[(3,.slc 0 0),(6,.sl Sj),(7,.int .i64),(8,.int .i64)],[.row false 0 48 Sl]⟩ [2,3] .none)))) .none)))
  (by kernel_rfl) rfl (by kernel_rfl) (by kernel_rfl) ⟨rfl,by unfold TOk;kernel_rfl,gOk_of rfl rfl (zH _),iOk_of rfl rfl (zH _),rfl⟩ (fun _x=>by kernel_rfl)
theorem en_diffs_Times(_N:Nat):EntOk Try.prog [] (mkG 61 Ks_diffs_Times 48 Sl (D_diffs_Times _N)):=entG ⟨Try.f61,bodyOf Try.f61,by kernel_rfl,by kernel_rfl,rfl⟩ (zD (by kernel_rfl)) (sp_diffs_Times _N)
abbrev Ks_diffs_Check:List Kd:=[.dat (.sl Sj)]
abbrev Rk_diffs_Check:List Kd:=[.dat (.int .i64)]
abbrev Rt_diffs_Check:Type:=Dens Rk_diffs_Check
def C_diffs_Check(_N:Nat):Ctx:={ T:=[(36,⟨.slice 41,1,24,some (.sl (.pair (.int .i64) (.pair (.int .i64) (.int .i64)))),[.nil],false,[]⟩),(53,⟨.slice 59,1,24,some (.sl Sj),[.nil],false,[]⟩),(59,⟨.struct [(0,48),(1,36)],2,48,some Sj,[.nil,.nil],false,[]⟩)],G:=findE [mkG 61 Ks_diffs_Times 48 Sl (D_diffs_Times _N),mkP 34 Ks_times_List Rk_times_List (D_times_List _N)],I:=findI [],N:=_N,n:=30,fx:=[],fl:=0,gs:=[] }
def diffs_Check_1(_N:Nat)(_v6:List Yd)(_v7:Int):Option Rt_diffs_Check:=
 (bif (decide ((_v6.length:Int)>(64:Int))) then (some ((1:Int),())) else (bif (decide (_v7>(128:Int))) then (some ((1:Int),())) else ((D_diffs_Times _N (_v6,())).bind fun _y10=>((D_times_List _N (_y10,())).bind fun _y11=>(some (_y11.1,()))))))
def diffs_Check_2(_N:Nat)(_k12:((List Yd)×Int)->Option Rt_diffs_Check)(_v1:List Yd)(_v3:List Yd)(_v4:Int)(_v2:Int)(_v5:Int)(_kn13:((List Yd)×(List Yd)×Int)×(Int×Int)->Option Rt_diffs_Check):Option Rt_diffs_Check:=
 (bif (decide (_v5<_v4)) then (bif (decide (0<=_v5)&&decide (_v5<(_v3.length:Int))) then (_kn13 ((_v1,_v3,_v4),((if (129:Int)<(IntKind.i64.wrap (_v2+(if (129:Int)<(((nth ([],[]) _v3 (_v5).toNat).2).length:Int) then (129:Int) else (((nth ([],[]) _v3 (_v5).toNat).2).length:Int)))) then (129:Int) else (IntKind.i64.wrap (_v2+(if (129:Int)<(((nth ([],[]) _v3 (_v5).toNat).2).length:Int) then (129:Int) else (((nth ([],[]) _v3 (_v5).toNat).2).length:Int))))),(IntKind.i64.wrap (_v5+(1:Int)))))) else none) else (_k12 (_v1,_v2)))
def diffs_Check_3(_N:Nat)(_x1:List Yd):Option Rt_diffs_Check:=
 (joinD (fun (_s:(List Yd)×Int)=>diffs_Check_1 _N _s.1 _s.2) fun _k12=>(loopE (fun (_c:(List Yd)×(List Yd)×Int) (_s:Int×Int) _kn=>diffs_Check_2 _N _k12 _c.1 _c.2.1 _c.2.2 _s.1 _s.2 _kn) _N (_x1,_x1,(_x1.length:Int)) ((0:Int),(0:Int))))
def D_diffs_Check(_N:Nat)(_x:Dens Ks_diffs_Check):Option Rt_diffs_Check:=diffs_Check_3 _N _x.1
theorem sp_diffs_Check(_N:Nat):SpecD Try.prog [] 37 Ks_diffs_Check Rk_diffs_Check (D_diffs_Check _N):=mkSpD (fn:=Try.f37) (c:=bodyOf Try.f37) (C:=C_diffs_Check _N)
  (a:=.two .none (.two .none (.join 0 ⟨[(0,.sl Sj),(3,.int .i64)],[]⟩ (.two .none (.one (.loop 0 ⟨[(0,.sl Sj),(3,.int .i64),(6,.sl Sj),(7,.int .i64),(8,.int .i64)],[]⟩ [1,4] .none))) .none)))
  (by kernel_rfl) rfl (by kernel_rfl) (by kernel_rfl) ⟨rfl,by unfold TOk;kernel_rfl,gOk_of rfl rfl (zY.2 ⟨en_diffs_Times _N,(zY.2 ⟨en_times_List _N,(zH _)⟩)⟩),iOk_of rfl rfl (zH _),rfl⟩ (fun _x=>by kernel_rfl)
end Go.Proofs.Ytcjecibocjbdmaa
end
