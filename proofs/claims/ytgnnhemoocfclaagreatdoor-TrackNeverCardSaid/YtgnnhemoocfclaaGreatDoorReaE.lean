import Derived.Test.YtgnnhemoocfclaaGreatDoorReaA
import Derived.Test.YtgnnhemoocfclaaGreatDoorReaM
noncomputable section
namespace Go.Proofs.YtgnnhemoocfclaaGreatDoor
open Go.Abs
abbrev SV:Sh:=.pair (.int .i64) (.pair (.int .i64) (.int .i64))
abbrev SS:Sh:=.sl (.int .i64)
abbrev SQ:Sh:=.pair (.int .i64) (.sl (.int .i64))
abbrev SN:Sh:=.pair (.pair (.sl (.pair (.int .i64) (.pair (.int .i64) (.pair (.int .i64) (.pair (.int .i64) (.int .i64)))))) (.sl (.pair (.int .i64) (.pair (.int .i64) (.int .i64))))) (.sl (.sl (.pair (.int .i64) (.pair (.int .i64) (.sl (.int .i64))))))
abbrev Yt:Type:=List (List Int)
abbrev Yr:Type:=Int×List Int
abbrev Yq:Type:=List (Int×Int×List Int)
abbrev Yp:Type:=List (Int×Int×Int×Int×Int)×List (Int×Int×Int)
abbrev qdr:List Kd:=[.ptr SN,.dat SQ,.dat SQ]
abbrev qdp:List Kd:=[.dat (.bool)]
abbrev qcq:Type:=Dens qdp
def qol(_N:Nat):Ctx:={ T:=[(3,⟨.int .i64,1,8,some (.int .i64),[.int .i64 (0:Int)],false,[]⟩),(4,⟨.bool,1,1,some .bool,[.bool false],false,[]⟩),(27,⟨.slice 3,1,24,some SS,[.nil],false,[]⟩),(29,⟨.struct [(0,3),(1,27)],2,32,some SQ,[.int .i64 (0:Int),.nil],false,[]⟩)],G:=findE [mkB3 45 qbI 73 SN SQ (.int .i64) (qaC _N),mkP 46 qdJ qdG (qbA _N)],I:=findI [mkI3 73 SN SQ (.int .i64) SS arrOk arrXs],N:=_N,n:=18,fx:=[],fl:=0,gs:=Gs }
def qnx(_N:Nat):Option qcq:=
 (some (false,()))
def qdP(_N:Nat)(_v3:Int)(_v4:List Int)(_v5:Int)(_v6:List Int)(_v7:Bool)(_kn16:(Int×List Int×Int×List Int×Bool)×Unit->Option qcq)(_y2:List Int):Option qcq:=
 ((qbA _N (_y2,_v6,())).bind fun _y17=>(bif _y17.1 then (some (true,())) else (_kn16 ((_v3,_v4,_v5,_v6,_v7),()))))
def qiA(_N:Nat)(_x1:Yp×List Yq)(_x2:Int×List Int)(_x3:Int×List Int):Option qcq:=
 (joinD (fun (_s:Int×List Int×Int×List Int×Bool)=>qnx _N) fun _k14=>((qaC _N (_x1,(_x2.1,_x2.2),_x3.1,())).bind fun _y15=>(bif arrOk _y15.1 _y15.2.1 _y15.2.2 then (forE (fun (_c:Int×List Int×Int×List Int×Bool) (_y:List Int) (_s:Unit) _kn=>qdP _N _c.1 _c.2.1 _c.2.2.1 _c.2.2.2.1 _c.2.2.2.2 _kn _y) (fun (_c:Int×List Int×Int×List Int×Bool) (_s:Unit)=>(_k14 (_c.1,_c.2.1,_c.2.2.1,_c.2.2.2.1,_c.2.2.2.2))) (arrXs _y15.1 _y15.2.1 _y15.2.2) (_x2.1,_x2.2,_x3.1,_x3.2,false) ()) else none)))
def qbX(_N:Nat)(_x:Dens qdr):Option qcq:=qiA _N _x.1 _x.2.1 _x.2.2.1
theorem qmI(_N:Nat):SpecD Tryz.prog Gs 19 qdr qdp (qbX _N):=mkSpD (fn:=Tryz.f19) (c:=qh Tryz.f19) (C:=qol _N)
  (a:=.two .none (.join 3 ⟨[(6,.ptr 2 0)],[.cells [.int .i64,.sl (.int .i64)],.cells [.int .i64,.sl (.int .i64)],.cells [.bool]]⟩ (.two .none (.one (.keep [5,6,12] 3 (.each 3 [.cells [.int .i64,.sl (.int .i64)],.cells [.int .i64,.sl (.int .i64)],.cells [.bool]] [] .none .none)))) .none))
  (by kernel_rfl) rfl (by kernel_rfl) (by kernel_rfl) ⟨rfl,by unfold TOk;kernel_rfl,qak rfl rfl (zD.2 ⟨qfW _N,(zD.2 ⟨qiY _N,(zC _)⟩)⟩),qaj rfl rfl (zD.2 ⟨qEk,(zC _)⟩),rfl⟩ (fun _x=>by kernel_rfl)
theorem qmX(_N:Nat):EntOk Tryz.prog Gs (mkP 19 qdr qdp (qbX _N)):=entP ⟨Tryz.f19,qh Tryz.f19,by kernel_rfl,by kernel_rfl,rfl⟩ (by kernel_rfl) (qmI _N)
abbrev qcu:List Kd:=[.ptr SN,.dat (.sl SQ)]
abbrev qct:List Kd:=[.dat (.sl (.sl SS))]
abbrev qo:Type:=Dens qct
def qlA(_N:Nat):Ctx:={ T:=[(22,⟨.slice 68,1,24,some (.sl (.pair (.int .i64) (.pair (.int .i64) SV))),[.nil],false,[]⟩),(25,⟨.struct [(0,22),(1,23)],2,48,some (.pair (.sl (.pair (.int .i64) (.pair (.int .i64) SV))) (.sl SV)),[.nil,.nil],false,[]⟩),(27,⟨.slice 3,1,24,some SS,[.nil],false,[]⟩),(29,⟨.struct [(0,3),(1,27)],2,32,some SQ,[.int .i64 (0:Int),.nil],false,[]⟩),(30,⟨.slice 45,1,24,some (.sl (.sl SS)),[.nil],false,[]⟩),(45,⟨.slice 27,1,24,some (.sl SS),[.nil],false,[]⟩),(47,⟨.slice 29,1,24,some (.sl SQ),[.nil],false,[]⟩),(84,⟨.struct [(0,25),(2,82)],3,72,some SN,[.nil,.nil,.nil],false,[]⟩)],G:=findE [mkG 69 qgw 27 SS (qds _N),mkB3 45 qbI 73 SN SQ (.int .i64) (qaC _N)],I:=findI [mkI3 73 SN SQ (.int .i64) SS arrOk arrXs],N:=_N,n:=46,fx:=[2,3],fl:=0,gs:=Gs }
def qgF(_N:Nat)(_v61:List Yt):Option qo:=
 (some (_v61,()))
def qdZ(_N:Nat)(_kn63:((Yp×List Yq)×(List Yr)×Int)×(Int×List Yt)->Option qo)(_v50:Yp×List Yq)(_v51:List Yr)(_v52:Int)(_v53:Int)(_v54:List Yt):Option qo:=
 (_kn63 ((_v50,_v51,_v52),((IntKind.i64.wrap (_v53+(1:Int))),_v54)))
def qdY(_N:Nat)(_k64:((Yp×List Yq)×(List Yr)×Int×Int×List Yt×List (List Int)×List (List Int))->Option qo)(_v42:Yp×List Yq)(_v43:List Yr)(_v44:Int)(_v45:Int)(_v46:Int)(_v47:List Yt)(_v48:List (List Int)):Option qo:=
 ((qds _N (_v48,())).bind fun _y65=>(bif (decide (0<=_v44)&&decide (_v44<(_v47.length:Int))) then (_k64 (_v42,_v43,_v45,_v46,(_v47.set ((_v44).toNat) _y65),_v48,_y65)) else none))
def qgE(_N:Nat)(_kn67:((Yp×List Yq)×(List Yr)×Int×Int×Int×(List Yr)×Int×List Yt)×(Int×List (List Int))->Option qo)(_v21:Yp×List Yq)(_v22:List Yr)(_v23:Int)(_v24:Int)(_v25:Int)(_v26:List Yr)(_v27:Int)(_v28:Int)(_v29:List Yt)(_v38:List (List Int)):Option qo:=
 (_kn67 ((_v21,_v22,_v23,_v24,_v25,_v26,_v27,_v29),((IntKind.i64.wrap (_v28+(1:Int))),_v38)))
def qcF(_N:Nat)(_v17:List Yt)(_v36:Int)(_v37:List Int)(_v35:List (List Int))(_kn70:(List Yt×Int×List Int)×List (List Int)->Option qo)(_y16:List Int):Option qo:=
 (bif (decide ((_v35.length+([_y16]).length)*24<=140737488355328)&&Nat.ble 1 24) then (_kn70 ((_v17,_v36,_v37),(_v35 ++ [_y16]))) else none)
def qcE(_N:Nat)(_k66:((Yp×List Yq)×(List Yr)×Int×Int×Int×List Yt×List (List Int))->Option qo)(_v6:Yp×List Yq)(_v7:List Yr)(_v8:Int)(_v9:Int)(_v10:Int)(_v11:List Yr)(_v12:Int)(_v14:List Yt)(_v13:Int)(_v33:List (List Int))(_kn67:((Yp×List Yq)×(List Yr)×Int×Int×Int×(List Yr)×Int×List Yt)×(Int×List (List Int))->Option qo):Option qo:=
 (bif (decide (_v13<_v12)) then (joinD (fun (_s:(Yp×List Yq)×(List Yr)×Int×Int×Int×(List Yr)×Int×Int×List Yt×List (List Int)×Int×List Int)=>qgE _N _kn67 _s.1 _s.2.1 _s.2.2.1 _s.2.2.2.1 _s.2.2.2.2.1 _s.2.2.2.2.2.1 _s.2.2.2.2.2.2.1 _s.2.2.2.2.2.2.2.1 _s.2.2.2.2.2.2.2.2.1 _s.2.2.2.2.2.2.2.2.2.1) fun _k68=>(bif (decide (0<=_v13)&&decide (_v13<(_v11.length:Int))) then ((qaC _N (_v6,((nth ((0:Int),[]) _v11 (_v13).toNat).1,(nth ((0:Int),[]) _v11 (_v13).toNat).2),_v8,())).bind fun _y69=>(bif arrOk _y69.1 _y69.2.1 _y69.2.2 then (forE (fun (_c:List Yt×Int×List Int) (_y:List Int) (_s:List (List Int)) _kn=>qcF _N _c.1 _c.2.1 _c.2.2 _s _kn _y) (fun (_c:List Yt×Int×List Int) (_s:List (List Int))=>(_k68 (_v6,_v7,_v8,_v9,_v10,_v11,_v12,_v13,_c.1,_s,_c.2.1,_c.2.2))) (arrXs _y69.1 _y69.2.1 _y69.2.2) (_v14,(nth ((0:Int),[]) _v11 (_v13).toNat).1,(nth ((0:Int),[]) _v11 (_v13).toNat).2) _v33) else none)) else none)) else (_k66 (_v6,_v7,_v8,_v9,_v10,_v14,_v33)))
def qdX(_N:Nat)(_k62:(List Yt)->Option qo)(_v1:Yp×List Yq)(_v2:List Yr)(_v3:Int)(_v4:Int)(_v5:List Yt)(_kn63:((Yp×List Yq)×(List Yr)×Int)×(Int×List Yt)->Option qo):Option qo:=
 (bif (decide (_v4<_v3)) then (joinD (fun (_s:(Yp×List Yq)×(List Yr)×Int×Int×List Yt×List (List Int)×List (List Int))=>qdZ _N _kn63 _s.1 _s.2.1 _s.2.2.1 _s.2.2.2.1 _s.2.2.2.2.1) fun _k64=>(joinD (fun (_s:(Yp×List Yq)×(List Yr)×Int×Int×Int×List Yt×List (List Int))=>qdY _N _k64 _s.1 _s.2.1 _s.2.2.1 _s.2.2.2.1 _s.2.2.2.2.1 _s.2.2.2.2.2.1 _s.2.2.2.2.2.2) fun _k66=>(loopE (fun (_c:(Yp×List Yq)×(List Yr)×Int×Int×Int×(List Yr)×Int×List Yt) (_s:Int×List (List Int)) _kn=>qcE _N _k66 _c.1 _c.2.1 _c.2.2.1 _c.2.2.2.1 _c.2.2.2.2.1 _c.2.2.2.2.2.1 _c.2.2.2.2.2.2.1 _c.2.2.2.2.2.2.2 _s.1 _s.2 _kn) _N (_v1,_v2,_v4,_v3,_v4,_v2,(_v2.length:Int),_v5) ((0:Int),[])))) else (_k62 _v5))
def qgD(_N:Nat)(_x1:Yp×List Yq)(_x2:List Yr):Option qo:=
 (bif (decide (0<=(_x1.1.1.length:Int))&&(decide ((_x1.1.1.length:Int)<=(_x1.1.1.length:Int))&&decide ((_x1.1.1.length:Int)*24<=281474976710656))) then (joinD (fun (_s:List Yt)=>qgF _N _s) fun _k62=>(loopE (fun (_c:(Yp×List Yq)×(List Yr)×Int) (_s:Int×List Yt) _kn=>qdX _N _k62 _c.1 _c.2.1 _c.2.2 _s.1 _s.2 _kn) _N (_x1,_x2,((List.replicate (_x1.1.1.length:Int).toNat ([]:List (List Int))).length:Int)) ((0:Int),(List.replicate (_x1.1.1.length:Int).toNat ([]:List (List Int)))))) else none)
def qaU(_N:Nat)(_x:Dens qcu):Option qo:=qgD _N _x.1 _x.2.1
theorem qkC(_N:Nat):SpecD Tryz.prog Gs 37 qcu qct (qaU _N):=mkSpD (fn:=Tryz.f37) (c:=qh Tryz.f37) (C:=qlA _N)
  (a:=.two .none (.two .none (.join 1 ⟨[(5,.slc 0 0)],[.row false 0 45 (.sl SS)]⟩ (.two .none (.one (.loop 1 ⟨[(0,.fptr SN),(1,.sl SQ),(5,.slc 0 0),(19,.int .i64),(20,.int .i64)],[.row false 0 45 (.sl SS)]⟩ [3,4] (.two .none (.two .none (.join 4 ⟨[(0,.fptr SN),(1,.sl SQ),(5,.slc 0 0),(19,.int .i64),(20,.int .i64)],[.row false 0 45 (.sl SS),.cells [.slc 2 0],.row true 0 27 SS,.row true 0 27 SS]⟩ (.one (.two .none (.two .none (.join 3 ⟨[(0,.fptr SN),(1,.sl SQ),(5,.slc 0 0),(6,.int .i64),(7,.ptr 1 0),(19,.int .i64),(20,.int .i64)],[.row false 0 45 (.sl SS),.cells [.slc 2 0],.row false 0 27 SS]⟩ (.two .none (.one (.objc 1 0 27 SS (.loop 3 ⟨[(0,.fptr SN),(1,.sl SQ),(5,.slc 0 0),(6,.int .i64),(7,.ptr 1 0),(19,.int .i64),(20,.int .i64),(23,.sl SQ),(24,.int .i64),(25,.int .i64)],[.row false 0 45 (.sl SS),.cells [.slc 2 0],.row false 0 27 SS]⟩ [7,9] (.two .none (.two .none (.join 4 ⟨[(0,.fptr SN),(1,.sl SQ),(5,.slc 0 0),(6,.int .i64),(7,.ptr 1 0),(19,.int .i64),(20,.int .i64),(23,.sl SQ),(24,.int .i64),(25,.int .i64)],[.row false 0 45 (.sl SS),.cells [.slc 2 0],.row false 0 27 SS,.cells [.int .i64,.sl (.int .i64)]]⟩ (.one (.two .none (.two .none (.one (.keep [0,1,5,6,7,19,20,23,24,25,32] 4 (.each 4 [.row false 0 45 (.sl SS),.cells [.slc 2 0],.row false 0 27 SS,.cells [.int .i64,.sl (.int .i64)]] [1] .none .none)))))) .none))))))) .none)))) .none)))))) .none)))
  (by kernel_rfl) rfl (by kernel_rfl) (by kernel_rfl) ⟨rfl,by unfold TOk;kernel_rfl,qak rfl rfl (zD.2 ⟨qsL _N,(zD.2 ⟨qfW _N,(zC _)⟩)⟩),qaj rfl rfl (zD.2 ⟨qEk,(zC _)⟩),rfl⟩ (fun _x=>by kernel_rfl)
theorem qkE(_N:Nat):EntOk Tryz.prog Gs (mkD 37 qcu qct (qaU _N)):=entD ⟨Tryz.f37,qh Tryz.f37,by kernel_rfl,by kernel_rfl,rfl⟩ (qkC _N)
end Go.Proofs.YtgnnhemoocfclaaGreatDoor
namespace Go.Proofs.YtgnnhemoocfclaaGreatDoor.Rea
open Go.Abs
open Go.Smy (Sm qC qw qaR qbl qbp leqP qbs thenS)
open Go.Proofs.YtgnnhemoocfclaaGreatDoor.Gh (Nd Ed nsum qby GrOk qcR)
theorem qqp{t:List Int}(h:tok t=true):∀ i,0<=nth 0 t i/\nth 0 t i<=1048576:=fun i=>by
 simp only [tok,zA,zj,zN] at h
 by_cases hi:i<t.length
 ·exact h.2 _ (qbJ hi)
 ·have e:nth (0:Int) t i=0:=by simp [nth,List.getD,zR (show t.length<=i by omega)]
  rw [e];decide
structure AplOk (x:Tr) (t:List Int):Prop where
 tk:tok t=true
 chk:qC (sm x) t.length=0
 big:nth 0 t (x.1.toNat - 1)+x.2.1<=1048576
theorem qEt{α:Type}(a b:List α)(i:Nat)(v:α)(h:i<a.length):(a++b).set i v=a.set i v++b:=by
 rw [List.set_append,zH h]
theorem qzG{N:Nat}(hN:200000000<=N)(x:Tr)(t:List Int):∃ y e,qef N (x,t,())=some (y,e,())/\(e=0↔AplOk x t)/\(e=0->y=apl x t):=by
 obtain⟨k,a,p⟩:=x
 obtain⟨c,hc,hc0⟩:=Check_eq hN t
 simp only [qef,qkS,hc,Option.bind_some]
 by_cases h0:c=0
 case neg=>exact⟨[],c,by rw [bne_iff_ne.2 h0,cond_true],⟨fun e=>absurd e h0,fun h=>absurd (hc0.2 h.tk) h0⟩,fun e=>absurd e h0⟩
 subst h0
 have htk:=hc0.1 rfl
 have hsc:=qlv hN (k,a,p) (t.length:Int)
 simp only [bne_self_eq_false,cond_false,hsc,Option.bind_some]
 by_cases h1:qC (sm (k,a,p)) t.length=0
 case neg=>exact⟨[],_,by rw [bne_iff_ne.2 h1,cond_true],⟨fun e=>absurd e h1,fun h=>absurd h.chk h1⟩,fun e=>absurd e h1⟩
 obtain⟨-,n4,k1,kn,ko,abad,pbad⟩:=qw.1 h1
 simp only [sm] at k1 kn ko abad pbad
 have hkn:k.toNat<=t.length:=by omega
 have hlt:(t.take k.toNat).length=k.toNat:=by rw [zd];omega
 have hw:IntKind.i64.wrap (k - 1)=((k.toNat - 1:Nat):Int):=by rw [w64 (by omega) (by omega)];omega
 have hcl:=qoa (N:=N) (a:=t.take k.toNat) (by omega)
 have hlen:(t.take k.toNat++p).length=k.toNat+p.length:=by rw [zQ,hlt]
 have hn:nth (0:Int) (t.take k.toNat++p) (k.toNat - 1)=nth 0 t (k.toNat - 1):=by
  rw [show nth (0:Int) (t.take k.toNat++p) (k.toNat - 1)=nth 0 (t.take k.toNat) (k.toNat - 1) from Go.Smy.nth_append_left _ _ _ (by omega)]
  exact Go.Smy.nth_take t _ _ (by omega)
 have hbt:=qqp htk (k.toNat - 1)
 have hadd:IntKind.i64.wrap (nth 0 t (k.toNat - 1)+a)=nth 0 t (k.toNat - 1)+a:=w64 (by omega) (by omega)
 have hset:nth (0:Int) ((t.take k.toNat++p).set (k.toNat - 1) (nth 0 t (k.toNat - 1)+a)) (k.toNat - 1)=nth 0 t (k.toNat - 1)+a:=by
  rw [nth_set (by omega),zH rfl]
 simp only [h1,bne_self_eq_false,cond_false,Int.toNat_zero,List.drop_zero,hcl,Option.bind_some,hw,hn,hadd,Int.toNat_natCast,hset,zAb]
 rw [qy (show (0:Int)<=0 by omega),qy (show (0:Int)<=k by omega),qy (show k<=(t.length:Int) by omega),hlt,qy (show (k.toNat+p.length)*8<=140737488355328 by omega),qy (show (0:Int)<=((k.toNat - 1:Nat):Int) by omega),qy (show ((k.toNat - 1:Nat):Int)<((t.take k.toNat++p).length:Int) by omega)]
 simp only [Bool.and_self,cond_true,show Nat.ble 1 8=true from rfl]
 rw [qkH N (nth 0 t (k.toNat - 1)+a)]
 simp only [Option.bind_some,Bool.not_not]
 cases hb:qaR (nth 0 t (k.toNat - 1)+a) with
 | true=>
  refine⟨[],6,rfl,⟨fun e=>(by cases e),fun h=>?_⟩,fun e=>(by cases e)⟩
  have:=h.big
  have h2:qaR (nth 0 t (k.toNat - 1)+a)=false:=qbl.2 ⟨by omega,this⟩
  rw [hb] at h2;cases h2
 | false=>
  refine⟨_,0,rfl,⟨fun _=>⟨htk,h1,(qbl.1 hb).2⟩,fun _=>rfl⟩,fun _=>?_⟩
  show _=(t.take k.toNat).set (k.toNat - 1) (nth 0 t (k.toNat - 1)+a)++p
  exact qEt _ _ _ _ (by omega)
section
variable {ns : List Nd} {es : List Ed}
structure Sok (ns:List Nd) (s:Int×List Int):Prop where
 a0:0<=s.1
 an:s.1<ns.length
 tk:tok s.2=true
 len:(s.2.length:Int)=dp ns s.1
theorem qtI{N:Nat}(hN:200000000<=N)(s:Int×List Int):∃ e,qcd N ((ns,es),s,())=some (e,())/\(e=0↔Sok ns s):=by
 simp only [qcd,qny]
 by_cases h0:s.1<0
 ·exact⟨2,by rw [qy h0,cond_true],⟨fun e=>(by cases e),fun h=>(by have:=h.a0;omega)⟩⟩
 by_cases hn:s.1>=ns.length
 ·exact⟨2,by rw [qO h0,qy hn,cond_true,cond_false],⟨fun e=>(by cases e),fun h=>(by have:=h.an;omega)⟩⟩
 rw [qO h0,qO hn,cond_false,cond_false]
 obtain⟨c,hc,hc0⟩:=Check_eq hN s.2
 simp only [hc,Option.bind_some]
 by_cases h1:c=0
 case neg=>exact⟨c,by rw [bne_iff_ne.2 h1,cond_true],fun e=>absurd e h1,fun h=>absurd (hc0.2 h.tk) h1⟩
 subst h1
 rw [bne_self_eq_false,cond_false,qy (show 0<=s.1 by omega),qy (show s.1<(ns.length:Int) by omega),Bool.and_self,cond_true]
 by_cases h2:(s.2.length:Int)=dp ns s.1
 ·refine⟨0,?_,fun _=>⟨by omega,by omega,hc0.1 rfl,h2⟩,fun _=>rfl⟩
  rw [show ((s.2.length:Int) != ((nth ((0:Int),((0:Int),((0:Int),((0:Int),(0:Int))))) ns s.1.toNat).2).1)=false from bne_eq_false_iff_eq.2 h2,cond_false]
 ·refine⟨7,?_,⟨fun e=>(by cases e),fun h=>absurd h.len h2⟩⟩
  rw [show ((s.2.length:Int) != ((nth ((0:Int),((0:Int),((0:Int),((0:Int),(0:Int))))) ns s.1.toNat).2).1)=true from bne_iff_ne.2 h2,cond_true]
def could(ns:List Nd)(P:List (List Tr))(a b:Int×List Int):Prop:=∃ r∈rw_ ns.length P a.1 b.1,AplOk r a.2/\undr (apl r a.2) b.2=true
theorem ix_eq(h:GrOk ns es){a b:Int}(a0:0<=a)(an:a<ns.length)(b0:0<=b)(bn:b<ns.length):IntKind.i64.wrap (IntKind.i64.wrap (a*(ns.length:Int))+b)=((a.toNat*ns.length+b.toNat:Nat):Int):=by
 have hn:=h.n12
 have hm0:0<=a*(ns.length:Int):=Int.mul_nonneg a0 (by omega)
 have hm2:a*(ns.length:Int)<=12*12:=Int.mul_le_mul (by omega) (by omega) (by omega) (by omega)
 rw [w64 (show -9223372036854775808<=a*(ns.length:Int) by omega) (by omega),w64 (by omega) (by omega),Int.natCast_add,Int.natCast_mul,show ((a.toNat:Nat):Int)=a by omega,show ((b.toNat:Nat):Int)=b by omega]
theorem qnQ(h:GrOk ns es){a b:Int}{r:Tr}{t:List Int}(fr:Fit ns a b r)(hl:(t.length:Int)=dp ns a)(d4:dp ns b<=4):Fits r t:=⟨fr.k1,by rw [hl];exact fr.keep,by rw [fr.out];exact d4⟩
theorem qCD(x:Tr)(t:List Int):((aplD x t).2.1=0↔AplOk x t)/\((aplD x t).2.1=0->(aplD x t).1=apl x t):=by
 obtain⟨y,e,h1,h2,h3⟩:=qzG (N:=aN) (Nat.le_refl _) x t
 have:aplD x t=(y,e,()):=by unfold aplD;rw [h1];rfl
 rw [this]
 exact⟨h2,h3⟩
theorem qzv(h:GrOk ns es){P:List (List Tr)}(hP:ReachOk ns es P){a:Int×List Int}{c:Int}(a0:0<=a.1)(an:a.1<ns.length)(b0:0<=c)(bn:c<ns.length):arrOk ((ns,es),P) a c=true/\qmo ((ns,es),P) a c=rw_ ns.length P a.1 c:=by
 have e:=ix_eq h a0 an b0 bn
 have e1:arrIx ((ns,es),P) a c=((a.1.toNat*ns.length+c.toNat:Nat):Int):=e
 have hlt:a.1.toNat*ns.length+c.toNat<P.length:=by rw [hP.pn];exact ix_lt (by omega) (by omega)
 refine⟨?_,by rw [qmo,e1,Int.toNat_natCast]⟩
 simp only [arrOk,e1,zA,zN,zj]
 refine⟨⟨by omega,by omega⟩,fun x _=>?_⟩
 obtain⟨y,e,h1,-⟩:=qzG (N:=aN) (Nat.le_refl _) x a.2
 rw [h1];rfl
theorem qxI(h:GrOk ns es){P:List (List Tr)}(hP:ReachOk ns es P){a:Int×List Int}{c:Int}(a0:0<=a.1)(an:a.1<ns.length)(b0:0<=c)(bn:c<ns.length){y:List Int}:y∈arrXs ((ns,es),P) a c↔∃ r∈rw_ ns.length P a.1 c,AplOk r a.2/\y=apl r a.2:=by
 rw [arrXs,(qzv h hP a0 an b0 bn).2]
 simp only [zo,zp,beq_iff_eq]
 constructor
 ·rintro⟨r,⟨h1,h2⟩,rfl⟩
  obtain⟨h3,h4⟩:=qCD r a.2
  exact⟨r,h1,h3.1 h2,h4 h2⟩
 ·rintro⟨r,h1,h2,rfl⟩
  obtain⟨h3,h4⟩:=qCD r a.2
  exact⟨r,⟨h1,h3.2 h2⟩,h4 (h3.2 h2)⟩
theorem qCI{N:Nat}(hN:200000000<=N)(h:GrOk ns es){P:List (List Tr)}(hP:ReachOk ns es P){a b:Int×List Int}(sa:Sok ns a)(sb:Sok ns b):∃ c,qbX N (((ns,es),P),a,b,())=some (c,())/\(c=true↔could ns P a b):=by
 obtain⟨k1,-⟩:=qzv h hP sa.a0 sa.an sb.a0 sb.an
 have hmem:=fun y=>qxI h hP (y:=y) sa.a0 sa.an sb.a0 sb.an
 have hlen:∀ y∈arrXs ((ns,es),P) a b.1,y.length=b.2.length:=fun y hy=>by
  obtain⟨r,hr,hk,rfl⟩:=(hmem y).1 hy
  have fr:=(hP.sound _ _ sa.a0 sa.an sb.a0 sb.an r hr).fit h sa.a0 sa.an
  have h1:=qin (qnQ h fr sa.len (qrL h sb.a0 sb.an).2)
  have h2:=fr.out
  have h3:=sb.len
  omega
 have hU:∀ y∈arrXs ((ns,es),P) a b.1,qbA N (y,b.2,())=some (undr y b.2,()):=fun y hy=>qvd (hlen y hy) (by rw [hlen y hy];exact (qqq sb.tk).2) hN
 simp only [qbX,qiA,joinD,qaC,qea,Option.bind_some]
 have ea:(a.1,a.2)=a:=rfl
 simp only [ea,k1,cond_true,forE]
 have hc:could ns P a b↔∃ y∈arrXs ((ns,es),P) a b.1,undr y b.2=true:=by
  constructor
  ·rintro⟨r,h1,h2,h3⟩
   exact⟨_,(hmem _).2 ⟨r,h1,h2,rfl⟩,h3⟩
  ·rintro⟨y,h1,h2⟩
   obtain⟨r,h3,h4,rfl⟩:=(hmem y).1 h1
   exact⟨r,h3,h4,h2⟩
 by_cases hex:could ns P a b
 ·refine⟨true,?_,by simp [hex]⟩
  refine qzi (r:=some (true,())) (fun y=>undr y b.2=true) _ (fun y hy hb kn=>?_) (fun y hy hb kn=>?_) (hc.1 hex)
  ·simp only [qdP,hU y hy,Option.bind_some,hb,cond_true]
  ·simp only [qdP,hU y hy,Option.bind_some,zBN _▸hb,cond_false,qK]
 ·refine⟨false,?_,by simp [hex]⟩
  refine (qwy _ (fun y hy kn=>?_)).trans ?_
  ·have hb:undr y b.2=false:=by
    cases e:undr y b.2 with
    | false=>rfl
    | true=>exact absurd (hc.2 ⟨y,hy,e⟩) hex
   simp only [qdP,hU y hy,Option.bind_some,hb,cond_false,qK]
  ·rfl
theorem lD2{R S:Type}(f:S->(S->Option R)->Option R)(n:Nat)(s:S):loopD f (n+1) s=f s (loopD f n):=rfl
end
end Go.Proofs.YtgnnhemoocfclaaGreatDoor.Rea
namespace Go.Proofs.YtgnnhemoocfclaaGreatDoor.Rea
open Go.Abs
open Go.Smy (Sm qC qw qaR qbl qbp leqP qbs thenS)
open Go.Proofs.YtgnnhemoocfclaaGreatDoor.Gh (Nd Ed nsum qby GrOk qcR)
theorem qox{t:List Int}{i:Nat}(h:t.length<=i):nth (0:Int) t i=0:=by simp [nth,List.getD,zR h]
theorem qyw{a b:List Int}(hl:a.length=b.length):undr a b=true↔∀ i,nth 0 a i<=nth 0 b i:=by
 rw [qtK hl]
 refine⟨fun h i=>?_,fun h i _=>h i⟩
 by_cases hi:i<a.length
 ·exact h i hi
 ·rw [qox (by omega),qox (by omega)];exact zAO _
theorem qFh{x:Tr}{t:List Int}(h:AplOk x t):tok (apl x t)=true:=by
 obtain⟨-,n4,k1,kn,ko,abad,pbad⟩:=qw.1 h.chk
 simp only [sm] at k1 kn ko abad pbad
 have hf:=qEO h.chk
 have hl:=qin hf
 simp only [outT] at hl
 have hb:=h.big
 have hall:∀ y∈apl x t,0<=y/\y<=1048576:=by
  intro y hy
  unfold apl at hy
  rcases zL.1 hy with hy | hy
  ·rcases List.mem_or_eq_of_mem_set hy with hy | rfl
   ·obtain⟨i,hi,rfl⟩:=mem_nth (z:=(0:Int)) (zAQ hy)
    exact qqp h.tk i
   ·have:=qqp h.tk (x.1.toNat - 1)
    omega
  ·obtain⟨i,hi,rfl⟩:=mem_nth (z:=(0:Int)) hy
   exact pbad i hi
 simp only [tok,zA,zj,zN]
 exact⟨⟨by omega,by omega⟩,hall⟩
section
variable {ns : List Nd} {es : List Ed} {P : List (List Tr)}
theorem Sok.pos{s:Int×List Int}(h:Sok ns s):∀ i,0<=nth 0 s.2 i:=fun i=>(qqp h.tk i).1
theorem qCg(h:GrOk ns es)(hP:ReachOk ns es P){a b:Int×List Int}(sa:Sok ns a)(sb:Sok ns b){s:Tr}(w:Way ns es a.1 b.1 s)(hs:∀ i,nth 0 (apl s a.2) i<=nth 0 b.2 i):could ns P a b:=by
 obtain⟨r,hr,hrs⟩:=hP.full a.1 b.1 sa.a0 sa.an s w
 have d4:=(qrL h sb.a0 sb.an).2
 have fs:=w.fit h sa.a0 sa.an
 have fr:=(hP.sound _ _ sa.a0 sa.an sb.a0 sb.an r hr).fit h sa.a0 sa.an
 have ts:=qnQ h fs sa.len d4
 have tr:=qnQ h fr sa.len d4
 have hm:=qzy hrs tr ts sa.pos (fun i=>zAO _)
 have hl:((apl r a.2).length:Int)=dp ns b.1:=by rw [qin tr,fr.out]
 have hlb:=sb.len
 have hle:∀ i,nth 0 (apl r a.2) i<=nth 0 b.2 i:=fun i=>by
  by_cases hi:(i:Int)<outT r
  ·exact zBS (hm i hi) (hs i)
  ·have e:=fr.out
   rw [qox (by omega),qox (by omega)];exact zAO _
 have k1:=fr.k1
 refine⟨r,hr,⟨sa.tk,by rw [sa.len];exact fr.chkD h sa.a0 sa.an,?_⟩,(qyw (by omega)).2 hle⟩
 have hk:((r.1.toNat - 1:Nat):Int)<outT r:=by simp only [outT];omega
 have e1:=qoU tr hk
 rw [zH (by omega)] at e1
 have e2:pl r ((r.1.toNat - 1:Nat):Int)=r.2.1:=Go.Smy.placeN_last (s:=sm r) (show ((r.1.toNat - 1:Nat):Int)=r.1 - 1 by omega)
 have h1:=hle (r.1.toNat - 1)
 have h2:=qqp sb.tk (r.1.toNat - 1)
 omega
theorem qwR(h:GrOk ns es)(hP:ReachOk ns es P){a b:Int×List Int}(sa:Sok ns a)(sb:Sok ns b)(c:could ns P a b):∃ r,WayB ns es a.1 b.1 r/\Fits r a.2/\∀ i,nth 0 (apl r a.2) i<=nth 0 b.2 i:=by
 obtain⟨r,hr,hk,hu⟩:=c
 have w:=hP.sound _ _ sa.a0 sa.an sb.a0 sb.an r hr
 have fr:=w.fit h sa.a0 sa.an
 have tr:=qnQ h fr sa.len (qrL h sb.a0 sb.an).2
 have hl:((apl r a.2).length:Int)=dp ns b.1:=by rw [qin tr,fr.out]
 have hlb:=sb.len
 exact⟨r,w,tr,(qyw (by omega)).1 hu⟩
theorem qyg(h:GrOk ns es)(hP:ReachOk ns es P){a b c:Int×List Int}(sa:Sok ns a)(sb:Sok ns b)(sc:Sok ns c)(h1:could ns P a b)(h2:could ns P b c):could ns P a c:=by
 obtain⟨r,wr,fr,hr⟩:=qwR h hP sa sb h1
 obtain⟨s,ws,fs,hs⟩:=qwR h hP sb sc h2
 have tr:=wr.fit h sa.a0 sa.an
 have ts:=ws.fit h sb.a0 sb.an
 have d4:=(qrL h sc.a0 sc.an).2
 have ho:s.1<=outT r:=by rw [tr.out];exact ts.keep
 refine qCg h hP sa sc ((wr.way h sa.a0 sa.an).two h sa.a0 sa.an (fun i hi=>zBS (wr.small i hi) (by decide)) ws) fun i=>?_
 rw [qFg fr ts.k1 ho (by rw [ts.out];exact d4)]
 have f3:Fits s (apl r a.2):=⟨ts.k1,by rw [qin fr];exact ho,by rw [ts.out];exact d4⟩
 by_cases hi:(i:Int)<outT s
 ·exact zBS (qzy (qnJ ts.chk) f3 fs sb.pos hr i hi) (hs i)
 ·have e:=qin f3
  have e2:=qin fs
  have h3:=hs i
  rw [qox (by omega)] at h3
  rw [qox (by omega)];exact h3
end
end Go.Proofs.YtgnnhemoocfclaaGreatDoor.Rea
namespace Go.Proofs.YtgnnhemoocfclaaGreatDoor.Rea
open Go.Abs
open Go.Proofs.YtgnnhemoocfclaaGreatDoor.Gh (Nd Ed nsum qby GrOk qcR)
section
variable {ns : List Nd} {es : List Ed} {P : List (List Tr)}
def allA(ns:List Nd)(es:List Ed)(P:List (List Tr))(l:List Yr)(i:Nat):List (List Int):=l.flatMap fun s=>arrXs ((ns,es),P) s (i:Int)
theorem qux(h:GrOk ns es)(hP:ReachOk ns es P){l:List Yr}(hs:∀ s∈l,Sok ns s){i:Nat}(hi:i<ns.length){y:List Int}:y∈allA ns es P l i↔∃ a∈l,∃ r∈rw_ ns.length P a.1 i,AplOk r a.2/\y=apl r a.2:=by
 unfold allA
 rw [zBL]
 constructor
 ·rintro⟨a,ha,hy⟩
  have sa:=hs a ha
  exact⟨a,ha,(qxI h hP sa.a0 sa.an (by omega) (by omega)).1 hy⟩
 ·rintro⟨a,ha,hy⟩
  have sa:=hs a ha
  exact⟨a,ha,(qxI h hP sa.a0 sa.an (by omega) (by omega)).2 hy⟩
theorem qCz(h:GrOk ns es)(hP:ReachOk ns es P){a:Int×List Int}(sa:Sok ns a){i:Nat}(hi:i<ns.length):(arrXs ((ns,es),P) a (i:Int)).length<=22277520:=by
 unfold arrXs
 rw [zh,(qzv h hP sa.a0 sa.an (show (0:Int)<=i by omega) (show (i:Int)<ns.length by omega)).2]
 exact zt (zAW _ _) (hP.len _)
theorem qym(h:GrOk ns es)(hP:ReachOk ns es P){i:Nat}(hi:i<ns.length):∀ {l:List Yr},(∀ s∈l,Sok ns s)->(allA ns es P l i).length<=l.length*22277520
 | [],_=>by simp [allA]
 | a :: l,hs=>by
  have h1:=qym h hP hi (l:=l) fun s hm=>hs s (by simp [hm])
  have h2:=qCz h hP (hs a (by simp)) hi
  have e:allA ns es P (a :: l) i=arrXs ((ns,es),P) a (i:Int)++allA ns es P l i:=rfl
  rw [e,zQ,List.length_cons]
  omega
theorem qoV(h:GrOk ns es)(hP:ReachOk ns es P){l:List Yr}(hs:∀ s∈l,Sok ns s){i:Nat}(hi:i<ns.length){y:List Int}(hy:y∈allA ns es P l i):tok y=true/\(y.length:Int)=dp ns i:=by
 obtain⟨a,ha,r,hr,hk,rfl⟩:=(qux h hP hs hi).1 hy
 have sa:=hs a ha
 have fr:=(hP.sound _ _ sa.a0 sa.an (by omega) (by omega) r hr).fit h sa.a0 sa.an
 exact⟨qFh hk,by rw [qin (qnQ h fr sa.len (qrL h (by omega) (by omega)).2),fr.out]⟩
theorem qFE(h:GrOk ns es)(hP:ReachOk ns es P){l:List Yr}(hl:l.length<=64)(hs:∀ s∈l,Sok ns s){i:Nat}(hi:i<ns.length):TL (allA ns es P l i) where
 len:=by have:=qym h hP hi hs;omega
 tok:=fun t ht=>(qoV h hP hs hi ht).1
 one:=fun t ht=>by
  have h1:=(qoV h hP hs hi ht).2
  have hpos:0<(allA ns es P l i).length:=zAr ht
  have h2:=(qoV h hP hs hi (qbJ (z:=([]:List Int)) hpos)).2
  omega
theorem qzh{N:Nat}{C:List Yt×Int×List Int}(K:List Yt×Int×List Int->List (List Int)->Option qo):∀ (xs all:List (List Int)),(all.length+xs.length)*24<=140737488355328 ->
  forE (fun (c:List Yt×Int×List Int) (y:List Int) (s:List (List Int)) kn=>qcF N c.1 c.2.1 c.2.2 s kn y) K xs C all=K C (all++xs)
 | [],all,_=>by rw [List.append_nil];rfl
 | y :: xs,all,hl=>by
  have h1:=qzh (N:=N) (C:=C) K xs (all ++ [y]) (by simp only [zQ,List.length_cons,List.length_nil] at hl ⊢;omega)
  simp only [forE] at h1 ⊢
  rw [qlk]
  generalize forD (fun (y:List Int) (s:List (List Int)) kn=>qcF N C.1 C.2.1 C.2.2 s (backE C kn) y) (K C) xs=G at h1 ⊢
  simp only [qcF]
  rw [qy (by simp only [List.length_cons,List.length_nil] at hl ⊢;omega),show Nat.ble 1 24=true from rfl,Bool.and_self,cond_true,qK]
  rw [h1,zT,List.singleton_append]
theorem qBN{l:List Yr}{i:Nat}(hi:i<l.length)(k:Nat):allA ns es P (l.take (i+1)) k=allA ns es P (l.take i) k++arrXs ((ns,es),P) (nth ((0:Int),([]:List Int)) l i) (k:Int):=by
 unfold allA
 rw [zW hi,List.flatMap_append,qcv hi]
 simp
theorem qAu{N:Nat}(hN:5000000000<=N)(h:GrOk ns es)(hP:ReachOk ns es P){l:List Yr}(hl:l.length<=64)(hs:∀ s∈l,Sok ns s) :
  ∃ f,qaU N (((ns,es),P),l,())=some (f,())/\f.length=ns.length/\∀ i,i<ns.length->(∀ t,t∈nth [] f i↔isMin (allA ns es P l i) t)/\(nth [] f i).length<=2000000000:=by
 have hn:=h.n12
 have hch:∀ i:Nat,∃ f:List (List Int),i<ns.length->qds N (allA ns es P l i,())=some f/\(∀ t,t∈f↔isMin (allA ns es P l i) t)/\f.length<=2000000000:=fun i=>by
  by_cases hi:i<ns.length
  ·have htl:=qFE h hP hl hs hi
   obtain⟨f,h1,-,h3,h4⟩:=qDM hN htl
   exact⟨f,fun _=>⟨h1,h3,zt h4 htl.len⟩⟩
  ·exact⟨[],fun hi'=>absurd hi' hi⟩
 obtain⟨F,hF⟩:=Classical.axiomOfChoice hch
 refine⟨(List.range ns.length).map F,?main,by simp,fun i hi=>?tail⟩
 case tail=>
  have e:nth [] ((List.range ns.length).map F) i=F i:=by rw [qcv (by simpa using hi)];simp
  rw [e]
  exact (hF i hi).2
 simp only [qaU,qgD,joinD,loopE]
 rw [qy (show (0:Int)<=ns.length by omega),qy (zAO _),qy (by omega),Bool.and_self,Bool.and_self,cond_true]
 have hr:(List.replicate ((ns.length:Int)).toNat ([]:List (List Int))).length=ns.length:=by simp
 have e00:List.replicate ((ns.length:Int)).toNat ([]:List (List Int))=(List.range ns.length).map fun j=>if j<0 then F j else []:=by
  simp only [zAV,if_false,Int.toNat_natCast]
  rw [List.map_const',zAa]
 rw [hr,e00]
 refine qbS (N:=N) ns.length (fun i=>((i:Int),(List.range ns.length).map fun j=>if j<i then F j else [])) (fun i hi kn=>?_) (fun kn=>?_) (by omega)
 ·simp only [qdX,lt_d hi,cond_true,joinD,loopE]
  have hstep:loopD (fun (s:Int×List (List Int)) kn2=>qcE N (fun s=>qdY N (fun s=>qdZ N (backE (((ns,es),P),l,(ns.length:Int)) kn) s.1 s.2.1 s.2.2.1 s.2.2.2.1 s.2.2.2.2.1) s.1 s.2.1 s.2.2.1 s.2.2.2.1 s.2.2.2.2.1 s.2.2.2.2.2.1 s.2.2.2.2.2.2) ((ns,es),P) l (i:Int) (ns.length:Int) (i:Int) l (l.length:Int) ((List.range ns.length).map fun j=>if j<i then F j else []) s.1 s.2 (backE (((ns,es),P),l,(i:Int),(ns.length:Int),(i:Int),l,(l.length:Int),(List.range ns.length).map fun j=>if j<i then F j else []) kn2)) N ((0:Int),[])=kn (((i+1:Nat):Int),(List.range ns.length).map fun j=>if j<i+1 then F j else []):=by
   refine qbS (N:=N) l.length (fun j=>((j:Int),allA ns es P (l.take j) i)) (fun j hj kn2=>?_) (fun kn2=>?_) (by omega)
   ·have sa:=hs _ (qbJ (z:=((0:Int),([]:List Int))) hj)
    have k1:=(qzv h hP sa.a0 sa.an (show (0:Int)<=i by omega) (show (i:Int)<ns.length by omega)).1
    have hlen:=qym h hP hi (l:=l.take j) fun s hm=>hs s (zAQ hm)
    have ha:=qCz h hP sa hi
    have hj2:(l.take j).length<=64:=by rw [zd];omega
    have ee:((nth ((0:Int),([]:List Int)) l j).1,(nth ((0:Int),([]:List Int)) l j).2)=nth ((0:Int),([]:List Int)) l j:=rfl
    simp only [qcE,lt_d hj,ge0_d,Bool.and_self,cond_true,joinD,Int.toNat_natCast,qaC,qea,Option.bind_some,ee,k1]
    rw [qzh (N:=N) _ _ _ (by omega)]
    simp only [qgE,qK,ix1 hj (show l.length<=1000000000 by omega)]
    rw [qBN hj i]
    rfl
   ·simp only [qcE,qbb,cond_false,qdY,zAB]
    rw [(hF i hi).1]
    have hsl:((List.range ns.length).map fun j=>if j<i then F j else []).length=ns.length:=by simp
    simp only [Option.bind_some,ge0_d,hsl,lt_d hi,Bool.and_self,cond_true,Int.toNat_natCast,qdZ,qK]
    have hset:((List.range ns.length).map fun j=>if j<i then F j else []).set i (F i)=(List.range ns.length).map fun j=>if j<i+1 then F j else []:=by
     refine List.ext_getElem (by simp) fun k h1 h2=>?_
     rw [List.getElem_set]
     simp only [List.getElem_map,List.getElem_range]
     by_cases e:i=k
     ·subst e;rw [zH rfl,zH (by omega)]
     ·rw [zJ e]
      by_cases e2:k<i
      ·rw [zH e2,zH (by omega)]
      ·rw [zJ e2,zJ (by omega)]
    rw [hset,ix1 hi (show ns.length<=1000000000 by omega)]
    rfl
  exact hstep
 ·simp only [qdX,qbb,cond_false,qgF]
  congr 2
  refine List.map_congr_left fun j hj=>?_
  rw [zH (zl.1 hj)]
theorem qAe{N:Nat}(hN:5000000000<=N)(h:GrOk ns es)(hP:ReachOk ns es P){l:List Yr}(hs:∀ s∈l,Sok ns s){s:Int×List Int}(ss:Sok ns s){g:List (List Int)}(hg:∀ t,t∈g↔isMin (allA ns es P l s.1.toNat) t)(hl:g.length<=2000000000) :
  ∃ b,qdk N (g,s.2,())=some (b,())/\(b=true↔∃ a∈l,could ns P a s):=by
 have hi:s.1.toNat<ns.length:=by have:=ss.a0;have:=ss.an;omega
 have e1:((s.1.toNat:Nat):Int)=s.1:=by have:=ss.a0;omega
 refine⟨_,qFk hN hl s.2,?_⟩
 rw [zAS]
 constructor
 ·rintro⟨u,hu,hle⟩
  have hm:=((hg u).1 hu).1
  obtain⟨a,ha,r,hr,hk,rfl⟩:=(qux h hP hs hi).1 hm
  rw [e1] at hr
  simp only [leqT,zA] at hle
  exact⟨a,ha,r,hr,hk,hle.2⟩
 ·rintro⟨a,ha,r,hr,hk,hu⟩
  have hy:apl r a.2∈allA ns es P l s.1.toNat:=(qux h hP hs hi).2 ⟨a,ha,r,by rw [e1];exact hr,hk,rfl⟩
  obtain⟨u,h1,h2⟩:=qxW (k:=(dp ns s.1).toNat) (fun t ht=>by have:=(qoV h hP hs hi ht).2;rw [e1] at this;omega) hg hy
  have hf:=qoV h hP hs hi ((hg u).1 h1).1
  rw [e1] at hf
  have hls:=ss.len
  refine⟨u,h1,?_⟩
  simp only [leqT,zA]
  exact⟨qCH.2 ⟨by omega,hf.1,ss.tk⟩,qjd h2 hu⟩
end
end Go.Proofs.YtgnnhemoocfclaaGreatDoor.Rea
namespace Go.Proofs.YtgnnhemoocfclaaGreatDoor
open Go.Abs
namespace Rea
open Go.Proofs.YtgnnhemoocfclaaGreatDoor.Gh (Nd Ed nsum qby GrOk qcR)
end Rea
end Go.Proofs.YtgnnhemoocfclaaGreatDoor
end
