import Derived.Test.YtcjecibocjbdmaaHisT
import Derived.Test.YtcjecibocjbdmaaAbsOpn
noncomputable section
namespace Go.Proofs.Ytcjecibocjbdmaa
open Go.Abs
abbrev Sl:Sh:=.sl (.int .i64)
shelf_lay_g SlLaysF.n6 Slsf 6 at Try 55 as lay_sortT
theorem hb_sortT:HasBody Try.prog 55:=⟨Try.f55,bodyOf Try.f55,by kernel_rfl,by kernel_rfl,rfl⟩
theorem hg_sortT:HasBody Try.prog 56:=⟨Try.f56,bodyOf Try.f56,by kernel_rfl,by kernel_rfl,rfl⟩
theorem en_sortT(_N:Nat):EntOk Try.prog [] (mkS 55 48 Sl 56 (fun p q=>(D_slices_Compare_Lint_int _N (p,q,())).map (·.1))):=entS1 lay_sortT hb_sortT hg_sortT (by kernel_rfl) rfl rfl (sp_slices_Compare_Lint_int _N)
abbrev Ks_slices_Clone_LLint_Lint:List Kd:=[.dat (.sl Sl)]
abbrev Rt_slices_Clone_LLint_Lint:Type:=List (List Int)
def C_slices_Clone_LLint_Lint(_N:Nat):Ctx:={ T:=[(47,⟨.slice 48,1,24,some (.sl Sl),[.nil],false,[]⟩),(48,⟨.slice 3,1,24,some Sl,[.nil],false,[]⟩)],G:=findE [],I:=findI [],N:=_N,n:=8,fx:=[],fl:=0,gs:=[] }
def slices_Clone_LLint_Lint_1(_N:Nat)(_x1:List (List Int)):Option Rt_slices_Clone_LLint_Lint:=
 (bif _x1.isEmpty then (dem2 (some []) (bif (decide ((([]:List (List Int)).length+_x1.length)*24<=140737488355328)&&Nat.ble 1 24) then (some (([]:List (List Int))++_x1)) else none)) else (bif (decide ((([]:List (List Int)).length+_x1.length)*24<=140737488355328)&&Nat.ble 1 24) then (some (([]:List (List Int))++_x1)) else none))
def D_slices_Clone_LLint_Lint(_N:Nat)(_x:Dens Ks_slices_Clone_LLint_Lint):Option Rt_slices_Clone_LLint_Lint:=slices_Clone_LLint_Lint_1 _N _x.1
theorem sp_slices_Clone_LLint_Lint(_N:Nat):SpecF Try.prog [] 54 Ks_slices_Clone_LLint_Lint 48 Sl (D_slices_Clone_LLint_Lint _N):=mkSpF (fn:=Try.f54) (c:=bodyOf Try.f54) (C:=C_slices_Clone_LLint_Lint _N)
  (a:=.none)
  (by kernel_rfl) rfl (by kernel_rfl) (by kernel_rfl) ⟨rfl,by unfold TOk;kernel_rfl,gOk_of rfl rfl (zS _),iOk_of rfl rfl (zS _),rfl⟩ (fun _x=>by kernel_rfl)
abbrev Sg_times_Least_c1_h:Sig:=⟨[.dat false Sl,.form (.ptr 0 0)],[.cells [.sl (.int .i64)]],
 [.dat false .bool],[.cells [.sl (.int .i64)]],[]⟩
abbrev Rt_times_Least_c1_h:Type:=Bool×List Int
def C_times_Least_c1_h(_N:Nat):Ctx:={ T:=[(48,⟨.slice 3,1,24,some Sl,[.nil],false,[]⟩)],G:=findE [mkP 59 Ks_times_Under Rk_times_Under (D_times_Under _N)],I:=findI [],N:=_N,n:=7,fx:=[],fl:=1,gs:=[] }
def times_Least_c1_h_1(_N:Nat)(_x1:List Int)(_x2:List Int):Option Rt_times_Least_c1_h:=
 ((D_times_Under _N (_x1,_x2,())).bind fun _y2=>(some (_y2.1,_x2)))
def D_times_Least_c1_h(_N:Nat)(_x:List Int×List Int):Option Rt_times_Least_c1_h:=times_Least_c1_h_1 _N _x.1 _x.2
theorem sp_times_Least_c1_h(_N:Nat):SpecH Try.prog [] 58 Sg_times_Least_c1_h (D_times_Least_c1_h _N):=mkSpH (fn:=Try.f58) (c:=bodyOf Try.f58) (C:=(C_times_Least_c1_h _N))
  (a:=.none)
  (by kernel_rfl) rfl (by kernel_rfl) (by kernel_rfl) (by kernel_rfl) rfl ⟨rfl,by unfold TOk;kernel_rfl,gOk_of rfl rfl (zAQ.2 ⟨en_times_Under _N,(zS _)⟩),iOk_of rfl rfl (zS _),rfl⟩ (fun _x=>by kernel_rfl)
theorem en_times_Least_c1_h(_N:Nat):EntOk Try.prog [] (mkHe 58 Sg_times_Least_c1_h (D_times_Least_c1_h _N)):=entH ⟨Try.f58,bodyOf Try.f58,by kernel_rfl,by kernel_rfl,rfl⟩ (sp_times_Least_c1_h _N)
abbrev Sg_slices_IndexFunc_LLint_Lint_h:Sig:=⟨[.dat false (.sl Sl),.form (.clo 58 [.ptr 0 0])],[.cells [.sl (.int .i64)]],
 [.dat false (.int .i64)],[.cells [.sl (.int .i64)]],[]⟩
abbrev Rt_slices_IndexFunc_LLint_Lint_h:Type:=Int×List Int
def C_slices_IndexFunc_LLint_Lint_h(_N:Nat):Ctx:={ T:=[(47,⟨.slice 48,1,24,some (.sl Sl),[.nil],false,[]⟩),(48,⟨.slice 3,1,24,some Sl,[.nil],false,[]⟩)],G:=findE [mkHe 58 Sg_times_Least_c1_h (D_times_Least_c1_h _N)],I:=findI [],N:=_N,n:=19,fx:=[],fl:=1,gs:=[] }
def slices_IndexFunc_LLint_Lint_h_1(_N:Nat)(_v7:List Int):Option Rt_slices_IndexFunc_LLint_Lint_h:=
 (some ((-1:Int),_v7))
def slices_IndexFunc_LLint_Lint_h_2(_N:Nat)(_k8:(List Int)->Option Rt_slices_IndexFunc_LLint_Lint_h)(_v1:List (List Int))(_v2:Int)(_v3:Int)(_v4:List Int)(_kn9:(List (List Int)×Int)×(Int×List Int)->Option Rt_slices_IndexFunc_LLint_Lint_h):Option Rt_slices_IndexFunc_LLint_Lint_h:=
 (bif (decide (_v3<_v2)) then (bif (decide (0<=_v3)&&decide (_v3<(_v1.length:Int))) then ((D_times_Least_c1_h _N ((nth ([]) _v1 (_v3).toNat),_v4)).bind fun _y10=>(bif _y10.1 then (some (_v3,_y10.2)) else (_kn9 ((_v1,_v2),((IntKind.i64.wrap (_v3+(1:Int))),_y10.2))))) else none) else (_k8 _v4))
def slices_IndexFunc_LLint_Lint_h_3(_N:Nat)(_x1:List (List Int))(_x2:List Int):Option Rt_slices_IndexFunc_LLint_Lint_h:=
 (joinD (fun (_s:List Int)=>slices_IndexFunc_LLint_Lint_h_1 _N _s) fun _k8=>(loopE (fun (_c:List (List Int)×Int) (_s:Int×List Int) _kn=>slices_IndexFunc_LLint_Lint_h_2 _N _k8 _c.1 _c.2 _s.1 _s.2 _kn) _N (_x1,(_x1.length:Int)) ((0:Int),_x2)))
def D_slices_IndexFunc_LLint_Lint_h(_N:Nat)(_x:List (List Int)×List Int):Option Rt_slices_IndexFunc_LLint_Lint_h:=slices_IndexFunc_LLint_Lint_h_3 _N _x.1 _x.2
theorem sp_slices_IndexFunc_LLint_Lint_h(_N:Nat):SpecH Try.prog [] 78 Sg_slices_IndexFunc_LLint_Lint_h (D_slices_IndexFunc_LLint_Lint_h _N):=mkSpH (fn:=Try.f78) (c:=bodyOf Try.f78) (C:=(C_slices_IndexFunc_LLint_Lint_h _N))
  (a:=.two .none (.join 1 ⟨[],[.cells [.sl (.int .i64)]]⟩ (.two .none (.one (.loop 1 ⟨[(0,.sl Sl),(1,.clo 58 [.ptr 0 0]),(7,.int .i64),(8,.int .i64)],[.cells [.sl (.int .i64)]]⟩ [2,3] .none))) .none))
  (by kernel_rfl) rfl (by kernel_rfl) (by kernel_rfl) (by kernel_rfl) rfl ⟨rfl,by unfold TOk;kernel_rfl,gOk_of rfl rfl (zAQ.2 ⟨en_times_Least_c1_h _N,(zS _)⟩),iOk_of rfl rfl (zS _),rfl⟩ (fun _x=>by kernel_rfl)
theorem en_slices_IndexFunc_LLint_Lint_h(_N:Nat):EntOk Try.prog [] (mkHe 78 Sg_slices_IndexFunc_LLint_Lint_h (D_slices_IndexFunc_LLint_Lint_h _N)):=entH ⟨Try.f78,bodyOf Try.f78,by kernel_rfl,by kernel_rfl,rfl⟩ (sp_slices_IndexFunc_LLint_Lint_h _N)
abbrev Sg_slices_ContainsFunc_LLint_Lint_h:Sig:=⟨[.dat false (.sl Sl),.form (.clo 58 [.ptr 0 0])],[.cells [.sl (.int .i64)]],
 [.dat false .bool],[.cells [.sl (.int .i64)]],[]⟩
abbrev Rt_slices_ContainsFunc_LLint_Lint_h:Type:=Bool×List Int
def C_slices_ContainsFunc_LLint_Lint_h(_N:Nat):Ctx:={ T:=[],G:=findE [mkHe 78 Sg_slices_IndexFunc_LLint_Lint_h (D_slices_IndexFunc_LLint_Lint_h _N)],I:=findI [],N:=_N,n:=9,fx:=[],fl:=1,gs:=[] }
def slices_ContainsFunc_LLint_Lint_h_1(_N:Nat)(_x1:List (List Int))(_x2:List Int):Option Rt_slices_ContainsFunc_LLint_Lint_h:=
 ((D_slices_IndexFunc_LLint_Lint_h _N (_x1,_x2)).bind fun _y2=>(some ((decide (_y2.1>=(0:Int))),_y2.2)))
def D_slices_ContainsFunc_LLint_Lint_h(_N:Nat)(_x:List (List Int)×List Int):Option Rt_slices_ContainsFunc_LLint_Lint_h:=slices_ContainsFunc_LLint_Lint_h_1 _N _x.1 _x.2
theorem sp_slices_ContainsFunc_LLint_Lint_h(_N:Nat):SpecH Try.prog [] 57 Sg_slices_ContainsFunc_LLint_Lint_h (D_slices_ContainsFunc_LLint_Lint_h _N):=mkSpH (fn:=Try.f57) (c:=bodyOf Try.f57) (C:=(C_slices_ContainsFunc_LLint_Lint_h _N))
  (a:=.none)
  (by kernel_rfl) rfl (by kernel_rfl) (by kernel_rfl) (by kernel_rfl) rfl ⟨rfl,by unfold TOk;kernel_rfl,gOk_of rfl rfl (zAQ.2 ⟨en_slices_IndexFunc_LLint_Lint_h _N,(zS _)⟩),iOk_of rfl rfl (zS _),rfl⟩ (fun _x=>by kernel_rfl)
abbrev Ks_ref_Lists:List Kd:=[.dat (.sl Sl),.dat (.sl Sl)]
abbrev Rk_ref_Lists:List Kd:=[.dat (.bool)]
abbrev Rt_ref_Lists:Type:=Dens Rk_ref_Lists
def C_ref_Lists(_N:Nat):Ctx:={ T:=[(47,⟨.slice 48,1,24,some (.sl Sl),[.nil],false,[]⟩),(48,⟨.slice 3,1,24,some Sl,[.nil],false,[]⟩)],G:=findE [mkP 36 Ks_ref_TimesSame Rk_ref_TimesSame (D_ref_TimesSame _N)],I:=findI [],N:=_N,n:=27,fx:=[],fl:=0,gs:=[] }
def ref_Lists_1(_N:Nat):Option Rt_ref_Lists:=
 (some (true,()))
def ref_Lists_2(_N:Nat)(_k6:Unit->Option Rt_ref_Lists)(_v1:List (List Int))(_v2:List (List Int))(_v3:Int)(_kn7:(List (List Int)×List (List Int))×Int->Option Rt_ref_Lists):Option Rt_ref_Lists:=
 (bif (decide (_v3<(_v1.length:Int))) then (bif (decide (0<=_v3)&&decide (_v3<(_v1.length:Int))) then (bif (decide (0<=_v3)&&decide (_v3<(_v2.length:Int))) then ((D_ref_TimesSame _N ((nth ([]) _v1 (_v3).toNat),(nth ([]) _v2 (_v3).toNat),())).bind fun _y8=>(bif (!_y8.1) then (some (false,())) else (_kn7 ((_v1,_v2),(IntKind.i64.wrap (_v3+(1:Int))))))) else none) else none) else (_k6 ()))
def ref_Lists_3(_N:Nat)(_x1:List (List Int))(_x2:List (List Int)):Option Rt_ref_Lists:=
 (bif ((_x1.length:Int) != (_x2.length:Int)) then (some (false,())) else (joinD (fun (_s:Unit)=>ref_Lists_1 _N) fun _k6=>(loopE (fun (_c:List (List Int)×List (List Int)) (_s:Int) _kn=>ref_Lists_2 _N _k6 _c.1 _c.2 _s _kn) _N (_x1,_x2) (0:Int))))
def D_ref_Lists(_N:Nat)(_x:Dens Ks_ref_Lists):Option Rt_ref_Lists:=ref_Lists_3 _N _x.1 _x.2.1
theorem sp_ref_Lists(_N:Nat):SpecD Try.prog [] 18 Ks_ref_Lists Rk_ref_Lists (D_ref_Lists _N):=mkSpD (fn:=Try.f18) (c:=bodyOf Try.f18) (C:=C_ref_Lists _N)
  (a:=.two .none (.two .none (.join 0 ⟨[],[]⟩ (.two .none (.one (.loop 0 ⟨[(0,.sl Sl),(1,.sl Sl),(5,.int .i64)],[]⟩ [2] (.two .none (.two (.one (.two (.draw 0 [.pure,.pure,.pure,.pure,.pure,.pure,.pure,.pure,.pure,.pure]) .none)) .none))))) .none)))
  (by kernel_rfl) rfl (by kernel_rfl) (by kernel_rfl) ⟨rfl,by unfold TOk;kernel_rfl,gOk_of rfl rfl (zAQ.2 ⟨en_ref_TimesSame _N,(zS _)⟩),iOk_of rfl rfl (zS _),rfl⟩ (fun _x=>by kernel_rfl)
end Go.Proofs.Ytcjecibocjbdmaa
end
