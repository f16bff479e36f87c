import Derived.Test.YtcjecibocjbdmaaBagsS
noncomputable section
namespace Go.Proofs.Ytcjecibocjbdmaa
open Go.Abs
abbrev Si:Sh:=.sl (.int .i64)
abbrev Ya:Type:=List (List Int)×List (List Int)×Int
abbrev Ks_times_Check:List Kd:=[.dat Si]
abbrev Rk_times_Check:List Kd:=[.dat (.int .i64)]
abbrev Rt_times_Check:Type:=Dens Rk_times_Check
def C_times_Check(_N:Nat):Ctx:={ T:=[(3,⟨.int .i64,1,8,some (.int .i64),[.int .i64 (0:Int)],false,[]⟩),(48,⟨.slice 3,1,24,some Si,[.nil],false,[]⟩)],G:=findE [],I:=findI [],N:=_N,n:=26,fx:=[],fl:=0,gs:=[] }
def times_Check_1(_N:Nat):Option Rt_times_Check:=
 (some ((0:Int),()))
def times_Check_2(_N:Nat)(_k4:Unit->Option Rt_times_Check)(_v1:List Int)(_v2:Int)(_v3:Int)(_kn5:(List Int×Int)×Int->Option Rt_times_Check):Option Rt_times_Check:=
 (bif (decide (_v3<_v2)) then (bif (decide (0<=_v3)&&decide (_v3<(_v1.length:Int))) then (bif (decide ((nth (0:Int) _v1 (_v3).toNat)<(0:Int))) then (some ((2:Int),())) else (bif (decide ((nth (0:Int) _v1 (_v3).toNat)>(1048576:Int))) then (some ((2:Int),())) else (_kn5 ((_v1,_v2),(IntKind.i64.wrap (_v3+(1:Int))))))) else none) else (_k4 ()))
def times_Check_3(_N:Nat)(_x1:List Int):Option Rt_times_Check:=
 (bif ((_x1.length:Int)==(0:Int)) then (some ((1:Int),())) else (bif (decide ((_x1.length:Int)>(4:Int))) then (some ((1:Int),())) else (joinD (fun (_s:Unit)=>times_Check_1 _N) fun _k4=>(loopE (fun (_c:List Int×Int) (_s:Int) _kn=>times_Check_2 _N _k4 _c.1 _c.2 _s _kn) _N (_x1,(_x1.length:Int)) (0:Int)))))
def D_times_Check(_N:Nat)(_x:Dens Ks_times_Check):Option Rt_times_Check:=times_Check_3 _N _x.1
theorem sp_times_Check(_N:Nat):SpecD Try.prog [] 53 Ks_times_Check Rk_times_Check (D_times_Check _N):=mkSpD (fn:=Try.f53) (c:=bodyOf Try.f53) (C:=C_times_Check _N)
  (a:=.two .none (.two .none (.join 0 ⟨[],[]⟩ (.two .none (.one (.loop 0 ⟨[(13,.sl (.int .i64)),(14,.int .i64),(15,.int .i64)],[]⟩ [2] .none))) .none)))
  (by kernel_rfl) rfl (by kernel_rfl) (by kernel_rfl) ⟨rfl,by unfold TOk;kernel_rfl,gOk_of rfl rfl (zS _),iOk_of rfl rfl (zS _),rfl⟩ (fun _x=>by kernel_rfl)
theorem en_times_Check(_N:Nat):EntOk Try.prog [] (mkP 53 Ks_times_Check Rk_times_Check (D_times_Check _N)):=entP ⟨Try.f53,bodyOf Try.f53,by kernel_rfl,by kernel_rfl,rfl⟩ (by kernel_rfl) (sp_times_Check _N)
abbrev Ks_times_Under:List Kd:=[.dat Si,.dat Si]
abbrev Rk_times_Under:List Kd:=[.dat (.bool)]
abbrev Rt_times_Under:Type:=Dens Rk_times_Under
def C_times_Under(_N:Nat):Ctx:={ T:=[(3,⟨.int .i64,1,8,some (.int .i64),[.int .i64 (0:Int)],false,[]⟩),(48,⟨.slice 3,1,24,some Si,[.nil],false,[]⟩)],G:=findE [],I:=findI [],N:=_N,n:=21,fx:=[],fl:=0,gs:=[] }
def times_Under_1(_N:Nat):Option Rt_times_Under:=
 (some (true,()))
def times_Under_2(_N:Nat)(_k5:Unit->Option Rt_times_Under)(_v1:List Int)(_v2:List Int)(_v3:Int)(_v4:Int)(_kn6:(List Int×List Int×Int)×Int->Option Rt_times_Under):Option Rt_times_Under:=
 (bif (decide (_v4<_v3)) then (bif (decide (0<=_v4)&&decide (_v4<(_v1.length:Int))) then (bif (decide (0<=_v4)&&decide (_v4<(_v2.length:Int))) then (bif (decide ((nth (0:Int) _v1 (_v4).toNat)>(nth (0:Int) _v2 (_v4).toNat))) then (some (false,())) else (_kn6 ((_v1,_v2,_v3),(IntKind.i64.wrap (_v4+(1:Int)))))) else none) else none) else (_k5 ()))
def times_Under_3(_N:Nat)(_x1:List Int)(_x2:List Int):Option Rt_times_Under:=
 (joinD (fun (_s:Unit)=>times_Under_1 _N) fun _k5=>(loopE (fun (_c:List Int×List Int×Int) (_s:Int) _kn=>times_Under_2 _N _k5 _c.1 _c.2.1 _c.2.2 _s _kn) _N (_x1,_x2,(_x1.length:Int)) (0:Int)))
def D_times_Under(_N:Nat)(_x:Dens Ks_times_Under):Option Rt_times_Under:=times_Under_3 _N _x.1 _x.2.1
theorem sp_times_Under(_N:Nat):SpecD Try.prog [] 59 Ks_times_Under Rk_times_Under (D_times_Under _N):=mkSpD (fn:=Try.f59) (c:=bodyOf Try.f59) (C:=C_times_Under _N)
  (a:=.two .none (.join 0 ⟨[],[]⟩ (.two .none (.one (.loop 0 ⟨[(0,.sl (.int .i64)),(1,.sl (.int .i64)),(7,.int .i64),(8,.int .i64)],[]⟩ [3] (.two .none (.two .none (.two (.one (.two .none (.two (.draw 0 [.pure,.pure,.pure,.pure,.pure,.pure,.pure,.pure,.pure]) .none))) .none)))))) .none))
  (by kernel_rfl) rfl (by kernel_rfl) (by kernel_rfl) ⟨rfl,by unfold TOk;kernel_rfl,gOk_of rfl rfl (zS _),iOk_of rfl rfl (zS _),rfl⟩ (fun _x=>by kernel_rfl)
theorem en_times_Under(_N:Nat):EntOk Try.prog [] (mkP 59 Ks_times_Under Rk_times_Under (D_times_Under _N)):=entP ⟨Try.f59,bodyOf Try.f59,by kernel_rfl,by kernel_rfl,rfl⟩ (by kernel_rfl) (sp_times_Under _N)
abbrev Ks_times_List:List Kd:=[.dat (.sl Si)]
abbrev Rk_times_List:List Kd:=[.dat (.int .i64)]
abbrev Rt_times_List:Type:=Dens Rk_times_List
def C_times_List(_N:Nat):Ctx:={ T:=[(47,⟨.slice 48,1,24,some (.sl Si),[.nil],false,[]⟩),(48,⟨.slice 3,1,24,some Si,[.nil],false,[]⟩)],G:=findE [mkP 53 Ks_times_Check Rk_times_Check (D_times_Check _N)],I:=findI [],N:=_N,n:=37,fx:=[],fl:=0,gs:=[] }
def times_List_1(_N:Nat):Option Rt_times_List:=
 (some ((0:Int),()))
def times_List_2(_N:Nat)(_k12:Unit->Option Rt_times_List)(_v8:List (List Int))(_v9:List (List Int))(_v10:Int)(_v11:Int)(_kn13:Ya×Int->Option Rt_times_List):Option Rt_times_List:=
 (bif (decide (_v11<_v10)) then (bif (decide (0<=_v11)&&decide (_v11<(_v9.length:Int))) then (bif (decide (0<=(0:Int))&&decide ((0:Int)<(_v8.length:Int))) then (bif (((nth ([]) _v9 (_v11).toNat).length:Int) != ((nth ([]) _v8 (0:Int).toNat).length:Int)) then (some ((3:Int),())) else (_kn13 ((_v8,_v9,_v10),(IntKind.i64.wrap (_v11+(1:Int)))))) else none) else none) else (_k12 ()))
def times_List_3(_N:Nat)(_v7:List (List Int)):Option Rt_times_List:=
 (joinD (fun (_s:Unit)=>times_List_1 _N) fun _k12=>(loopE (fun (_c:List (List Int)×List (List Int)×Int) (_s:Int) _kn=>times_List_2 _N _k12 _c.1 _c.2.1 _c.2.2 _s _kn) _N (_v7,_v7,(_v7.length:Int)) (0:Int)))
def times_List_4(_N:Nat)(_k14:(List (List Int))->Option Rt_times_List)(_v1:List (List Int))(_v2:List (List Int))(_v3:Int)(_v4:Int)(_kn15:Ya×Int->Option Rt_times_List):Option Rt_times_List:=
 (bif (decide (_v4<_v3)) then (bif (decide (0<=_v4)&&decide (_v4<(_v2.length:Int))) then ((D_times_Check _N ((nth ([]) _v2 (_v4).toNat),())).bind fun _y16=>(bif (_y16.1 != (0:Int)) then (some (_y16.1,())) else (_kn15 ((_v1,_v2,_v3),(IntKind.i64.wrap (_v4+(1:Int))))))) else none) else (_k14 _v1))
def times_List_5(_N:Nat)(_x1:List (List Int)):Option Rt_times_List:=
 (bif (decide ((_x1.length:Int)>(64:Int))) then (some ((1:Int),())) else (joinD (fun (_s:List (List Int))=>times_List_3 _N _s) fun _k14=>(loopE (fun (_c:List (List Int)×List (List Int)×Int) (_s:Int) _kn=>times_List_4 _N _k14 _c.1 _c.2.1 _c.2.2 _s _kn) _N (_x1,_x1,(_x1.length:Int)) (0:Int))))
def D_times_List(_N:Nat)(_x:Dens Ks_times_List):Option Rt_times_List:=times_List_5 _N _x.1
theorem sp_times_List(_N:Nat):SpecD Try.prog [] 34 Ks_times_List Rk_times_List (D_times_List _N):=mkSpD (fn:=Try.f34) (c:=bodyOf Try.f34) (C:=C_times_List _N)
  (a:=.two .none (.two .none (.join 0 ⟨[(0,.sl Si)],[]⟩ (.two .none (.one (.loop 0 ⟨[(0,.sl Si),(11,.sl Si),(12,.int .i64),(13,.int .i64)],[]⟩ [3] .none))) (.join 0 ⟨[],[]⟩ (.two .none (.one (.loop 0 ⟨[(0,.sl Si),(23,.sl Si),(24,.int .i64),(25,.int .i64)],[]⟩ [3] .none))) .none))))
  (by kernel_rfl) rfl (by kernel_rfl) (by kernel_rfl) ⟨rfl,by unfold TOk;kernel_rfl,gOk_of rfl rfl (zAQ.2 ⟨en_times_Check _N,(zS _)⟩),iOk_of rfl rfl (zS _),rfl⟩ (fun _x=>by kernel_rfl)
end Go.Proofs.Ytcjecibocjbdmaa
end
