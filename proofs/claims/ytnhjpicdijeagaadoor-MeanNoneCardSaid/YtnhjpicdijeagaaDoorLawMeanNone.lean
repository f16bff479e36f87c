import Derived.Test.YtnhjpicdijeagaaDoorMeaQ
import Derived.Test.YtnhjpicdijeagaaDoorFrame
noncomputable section
namespace Go.Proofs.YtnhjpicdijeagaaDoor
open Go Go.ChangeShapes Go.WideShapes Go.ChangeAt Go.WideMaps Go.WideElems Go.RowKit Go.Abs Go.Bag
abbrev SG:Sh:=.sl (.int .i64)
abbrev SE:Sh:=.pair (.int .i64) (.pair (.int .i64) (.int .i64))
abbrev Yq:Type:=Int×Int×Int×Int×Int
abbrev Yp:Type:=Int×Int×Int
abbrev Ks_keep_MeanNone:List Kd:=[.dat (.pair (.pair (.sl (.pair (.int .i64) (.pair (.int .i64) SE))) (.sl SE)) (.int .i64)),.dat (.int .i64),.dat (.int .i64),.dat SG]
abbrev Rk_keep_MeanNone:List Kd:=[.dat (.bool)]
abbrev Rt_keep_MeanNone:Type:=Dens Rk_keep_MeanNone
def C_keep_MeanNone(_N:Nat):Ctx:={ T:=[(3,⟨.int .i64,1,8,some (.int .i64),[.int .i64 (0:Int)],false,[]⟩),(22,⟨.slice 39,1,24,some (.sl (.pair (.int .i64) (.pair (.int .i64) SE))),[.nil],false,[]⟩),(25,⟨.struct [(0,22),(1,23)],2,48,some (.pair (.sl (.pair (.int .i64) (.pair (.int .i64) SE))) (.sl SE)),[.nil,.nil],false,[]⟩),(27,⟨.struct [(0,25),(2,3)],3,56,some (.pair (.pair (.sl (.pair (.int .i64) (.pair (.int .i64) SE))) (.sl SE)) (.int .i64)),[.nil,.nil,.int .i64 (0:Int)],false,[]⟩),(28,⟨.slice 3,1,24,some SG,[.nil],false,[]⟩),(29,⟨.slice 69,1,24,some (.sl SE),[.nil],false,[]⟩),(30,⟨.int .i64,1,8,some (.int .i64),[.int .i64 (0:Int)],false,[]⟩),(34,⟨.struct [(0,30),(1,3)],2,16,some (.pair (.int .i64) (.int .i64)),[.int .i64 (0:Int),.int .i64 (0:Int)],true,[]⟩),(39,⟨.struct [(0,3),(1,3),(2,37)],5,40,some (.pair (.int .i64) (.pair (.int .i64) SE)),[.int .i64 (0:Int),.int .i64 (0:Int),.int .i64 (0:Int),.int .i64 (0:Int),.int .i64 (0:Int)],true,[]⟩)],G:=findE [mkD 6 Ks_mean_At Rk_mean_At (D_mean_At _N),mkP 7 Ks_mean_Check Rk_mean_Check (D_mean_Check _N)],I:=findI [],N:=_N,n:=116,fx:=[],fl:=0,gs:=Gs }
def keep_MeanNone_1(_N:Nat)(_v20:List Yp)(_v21:Int)(_v22:Bool):Option Rt_keep_MeanNone:=
 (bif ((_v20.length:Int)==(0:Int)) then (bif (!_v22) then (some (true,())) else (some ((_v21==(0:Int)),()))) else (some (false,())))
def keep_MeanNone_2(_N:Nat)(_k30:((List Yp)×Int×Bool×(List Yq)×(List Yp)×Int)->Option Rt_keep_MeanNone)(_v12:List Int)(_v13:List Yp)(_v14:Int)(_v17:List Yq)(_v18:List Yp)(_v19:Int)(_v15:Bool)(_v16:Int)(_kn31:(List Int×(List Yp)×Int×(List Yq)×(List Yp)×Int)×(Bool×Int)->Option Rt_keep_MeanNone):Option Rt_keep_MeanNone:=
 (bif (decide (_v16<(_v12.length:Int))) then (bif _v15 then (bif (decide (0<=_v16)&&decide (_v16<(_v12.length:Int))) then (bif (decide ((nth (0:Int) _v12 (_v16).toNat)>=(0:Int))) then (bif (decide (0<=_v16)&&decide (_v16<(_v12.length:Int))) then (_kn31 ((_v12,_v13,_v14,_v17,_v18,_v19),((decide ((nth (0:Int) _v12 (_v16).toNat)<=_v19)),(IntKind.i64.wrap (_v16+(1:Int)))))) else none) else (_kn31 ((_v12,_v13,_v14,_v17,_v18,_v19),(false,(IntKind.i64.wrap (_v16+(1:Int))))))) else none) else (_kn31 ((_v12,_v13,_v14,_v17,_v18,_v19),(false,(IntKind.i64.wrap (_v16+(1:Int))))))) else (_k30 (_v13,_v14,_v15,_v17,_v18,_v19)))
def keep_MeanNone_3(_N:Nat)(_v5:List Int)(_v6:List Yp)(_v7:Int)(_v8:Bool)(_v9:List Yq)(_v10:List Yp)(_v11:Int):Option Rt_keep_MeanNone:=
 (joinD (fun (_s:(List Yp)×Int×Bool×(List Yq)×(List Yp)×Int)=>keep_MeanNone_1 _N _s.1 _s.2.1 _s.2.2.1) fun _k30=>(loopE (fun (_c:List Int×(List Yp)×Int×(List Yq)×(List Yp)×Int) (_s:Bool×Int) _kn=>keep_MeanNone_2 _N _k30 _c.1 _c.2.1 _c.2.2.1 _c.2.2.2.1 _c.2.2.2.2.1 _c.2.2.2.2.2 _s.1 _s.2 _kn) _N (_v5,_v6,_v7,_v9,_v10,_v11) (_v8,(0:Int))))
def keep_MeanNone_4(_N:Nat)(_x1:(List Yq×List Yp)×Int)(_x2:Int)(_x3:Int)(_x4:List Int):Option Rt_keep_MeanNone:=
 ((D_mean_At _N (((_x1.1.1,_x1.1.2),_x1.2),[],_x2,_x3,_x4,())).bind fun _y26=>((D_mean_Check _N (((_x1.1.1,_x1.1.2),_x1.2),())).bind fun _y27=>(bif (_y27.1.1 != (0:Int)) then (bif ((_y26.1.length:Int)==(0:Int)) then ((D_mean_Check _N (((_x1.1.1,_x1.1.2),_x1.2),())).bind fun _y28=>(some ((_y26.2.1==_y28.1.1),()))) else (some (false,()))) else ((D_mean_At _N (((_x1.1.1,_x1.1.2),_x1.2),[],(-1:Int),_x3,_x4,())).bind fun _y29=>(bif (_y29.2.1==(0:Int)) then (some (false,())) else (joinD (fun (_s:List Int×(List Yp)×Int×Bool×(List Yq)×(List Yp)×Int)=>keep_MeanNone_3 _N _s.1 _s.2.1 _s.2.2.1 _s.2.2.2.1 _s.2.2.2.2.1 _s.2.2.2.2.2.1 _s.2.2.2.2.2.2) fun _k32=>(bif (decide (_x2>=(0:Int))) then (bif (decide (_x2<(_x1.1.1.length:Int))) then (bif (_x3==(0:Int)) then (bif (decide (0<=_x2)&&decide (_x2<(_x1.1.1.length:Int))) then (bif (((nth ((0:Int),((0:Int),((0:Int),((0:Int),(0:Int))))) _x1.1.1 (_x2).toNat).1) != (1:Int)) then (bif (decide (0<=_x2)&&decide (_x2<(_x1.1.1.length:Int))) then (_k32 (_x4,_y26.1,_y26.2.1,((_x4.length:Int)==(((nth ((0:Int),((0:Int),((0:Int),((0:Int),(0:Int))))) _x1.1.1 (_x2).toNat).2).1)),_x1.1.1,_x1.1.2,_x1.2)) else none) else (_k32 (_x4,_y26.1,_y26.2.1,false,_x1.1.1,_x1.1.2,_x1.2))) else none) else (_k32 (_x4,_y26.1,_y26.2.1,false,_x1.1.1,_x1.1.2,_x1.2))) else (_k32 (_x4,_y26.1,_y26.2.1,false,_x1.1.1,_x1.1.2,_x1.2))) else (_k32 (_x4,_y26.1,_y26.2.1,false,_x1.1.1,_x1.1.2,_x1.2)))))))))
def D_keep_MeanNone(_N:Nat)(_x:Dens Ks_keep_MeanNone):Option Rt_keep_MeanNone:=keep_MeanNone_4 _N _x.1 _x.2.1 _x.2.2.1 _x.2.2.2.1
theorem sp_keep_MeanNone(_N:Nat):SpecD Tryd.prog Gs 3 Ks_keep_MeanNone Rk_keep_MeanNone (D_keep_MeanNone _N):=mkSpD (fn:=Tryd.f3) (c:=bodyOf Tryd.f3) (C:=C_keep_MeanNone _N)
  (a:=.two .none (.two .none (.two .none (.two .none (.two .none (.join 1 ⟨[(3,.sl (.int .i64)),(4,.ptr 0 0),(9,.sl SE),(10,.int .i64),(13,.bool)],[.cells [.sl (.pair (.int .i64) (.pair (.int .i64) SE)),.sl SE,.int .i64]]⟩ .none (.join 1 ⟨[(9,.sl SE),(10,.int .i64),(13,.bool)],[.cells [.sl (.pair (.int .i64) (.pair (.int .i64) SE)),.sl SE,.int .i64]]⟩ (.two .none (.one (.loop 1 ⟨[(3,.sl (.int .i64)),(4,.ptr 0 0),(9,.sl SE),(10,.int .i64),(13,.bool),(14,.int .i64)],[.cells [.sl (.pair (.int .i64) (.pair (.int .i64) SE)),.sl SE,.int .i64]]⟩ [3,4] (.two .none (.two (.one (.draw 0 [.pure,.pure,.pure,.pure,.pure,.pure,.pure,.pure,.pure,.pure,.pure,.pure,.pure,.pure,.rd [0],.pure,.pure,.pure])) .none))))) .none)))))))
  (by kernel_rfl) rfl (by kernel_rfl) (by kernel_rfl) ⟨rfl,by unfold TOk;kernel_rfl,gOk_of rfl rfl (zI.2 ⟨en_mean_At _N,(zI.2 ⟨en_mean_Check _N,(zD _)⟩)⟩),iOk_of rfl rfl (zD _),rfl⟩ (fun _x=>by kernel_rfl)
theorem ixM{n i:Nat}(h:i<n)(hn:n<=9223372036854775807):IntKind.i64.wrap ((i:Int)+1)=(i:Int)+1:=w64 (by omega) (by omega)
theorem none_loop{N:Nat}(t:List Int)(a:List Row)(e:Int)(r0:Bool)(ns:List Nd)(es:List Ed)(rd:Int)(hN:t.length<N)(hl:t.length<=9223372036854775807) :
  ∃ r:Bool,(r=true->r0=true/\∀ x∈t,0<=x/\x<=rd)/\keep_MeanNone_3 N t a e r0 ns es rd=keep_MeanNone_1 N a e r:=by
 simp only [keep_MeanNone_3,joinD,loopE]
 obtain⟨s',⟨h1,h2⟩,h3⟩:=loopD_inv (g:=fun (s:Bool×Int) kn=>keep_MeanNone_2 N (fun s=>keep_MeanNone_1 N s.1 s.2.1 s.2.2.1) t a e ns es rd s.1 s.2 (backE (t,a,e,ns,es,rd) kn)) (k:=fun s=>keep_MeanNone_1 N a e s.1) t.length
  (fun i s=>s.2=(i:Int)/\(s.1=true->r0=true/\∀ x∈t.take i,0<=x/\x<=rd))
  (by
   rintro i ⟨r,_⟩ hi ⟨rfl,hr⟩
   simp only at hr
   cases r with
   | false=>
    refine⟨(false,(i:Int)+1),⟨by simp,fun h=>by cases h⟩,fun kn=>?_⟩
    simp only [keep_MeanNone_2,lt_d hi,cond_true,cond_false,ixM hi hl,backE_eq]
   | true=>
    by_cases q1:nth 0 t i>=0
    ·refine⟨(decide (nth 0 t i<=rd),(i:Int)+1),⟨by simp,fun h=>⟨(hr rfl).1,fun x hx=>?_⟩⟩,fun kn=>?_⟩
     ·rw [take_nth (z:=(0:Int)) hi] at hx
      rcases zV.1 hx with hx | hx
      ·exact (hr rfl).2 x hx
      ·rw [zz.1 hx];exact⟨q1,zh h⟩
     ·simp only [keep_MeanNone_2,lt_d hi,ge0_d,Int.toNat_natCast,Bool.and_self,cond_true,d_true q1,ixM hi hl,backE_eq]
    ·refine⟨(false,(i:Int)+1),⟨by simp,fun h=>by cases h⟩,fun kn=>?_⟩
     simp only [keep_MeanNone_2,lt_d hi,ge0_d,Int.toNat_natCast,Bool.and_self,cond_true,cond_false,d_false q1,ixM hi hl,backE_eq])
  (by
   rintro⟨r,_⟩ ⟨rfl,hr⟩ kn
   simp only [keep_MeanNone_2,lt_self,cond_false])
  hN (s:=(r0,(0:Int))) ⟨rfl,fun h=>⟨h,fun x hx=>by simp at hx⟩⟩
 refine⟨s'.1,fun h=>?_,h3⟩
 have:=h2 h
 rw [zAT] at this
 exact this
theorem none_end{N:Nat}(e:Int)(r:Bool)(h:r=true->e=0):keep_MeanNone_1 N [] e r=some (true,()):=by
 simp only [keep_MeanNone_1,List.length_nil]
 cases r with
 | false=>rfl
 | true=>rw [h rfl];rfl
theorem law_MeanNone(p:(List Yq×List Yp)×Int)(node port:Int)(t:List Int)(_h1:wfS (.pair (.pair (.sl (.pair (.int .i64) (.pair (.int .i64) SE))) (.sl SE)) (.int .i64)) p)(_h2:wfS (.int .i64) node)(_h3:wfS (.int .i64) port)(h4:wfS SG t):∃ N,D_keep_MeanNone N (p,node,port,t,())=some (true,()):=by
 obtain⟨⟨ns,es⟩,rd⟩:=p
 refine⟨t.length+1000,?_⟩
 have hl:t.length<=9223372036854775807:=by
  have:=h4.1
  unfold maxI at this
  omega
 generalize hNN:t.length+1000=N
 have hN:1000<=N:=by omega
 obtain⟨ca,hck⟩:=mCheck_eq (N:=N) hN ⟨ns,es,rd,[]⟩
 obtain⟨a1,a2⟩:=at_none ns es rd node port t
 obtain⟨b1,b2⟩:=at_none ns es rd (-1) port t
 have eA:=At_eq N ns es rd [] node port t
 have eB:=At_eq N ns es rd [] (-1) port t
 rw [a1,a2] at eA
 rw [b1,b2] at eB
 simp only [D_keep_MeanNone,keep_MeanNone_4]
 rw [eA,eB]
 simp only [Option.bind_some,hck]
 by_cases k1:codeM ⟨ns,es,rd,[]⟩=0
 ·rw [show (codeM ⟨ns,es,rd,[]⟩ != 0)=false from by simp [k1],cond_false,zL (fun q=>q k1),zL (fun q=>q k1),show (codeP ⟨ns,es,rd,[]⟩ (-1) port t==0)=false from zS (codeP_neg _ _ _),cond_false]
  simp only [joinD]
  have hP:=codes_ok k1 (codeF_nil ns es rd)
  have fin:∀ r0:Bool,(r0=true->(∀ x∈t,0<=x/\x<=rd)->codeP ⟨ns,es,rd,[]⟩ node port t=0)->keep_MeanNone_3 N t [] (codeP ⟨ns,es,rd,[]⟩ node port t) r0 ns es rd=some (true,()):=fun r0 h0=>by
   obtain⟨r,h1,h2⟩:=none_loop (N:=N) t [] (codeP ⟨ns,es,rd,[]⟩ node port t) r0 ns es rd (by omega) hl
   rw [h2]
   exact none_end _ _ fun hr=>h0 (h1 hr).1 (h1 hr).2
  have fin0:=fin false (fun h=>by cases h)
  by_cases q1:node>=0
  ·rw [d_true q1,cond_true]
   by_cases q2:node<(ns.length:Int)
   ·rw [d_true q2,cond_true]
    by_cases q3:port=0
    ·rw [show (port==0)=true from beq_iff_eq.2 q3,cond_true,Bool.and_self,cond_true]
     have e1:nth ((0:Int),(0:Int),(0:Int),(0:Int),(0:Int)) ns node.toNat=ndA ns node.toNat:=rfl
     rw [e1]
     by_cases q4:(ndA ns node.toNat).1=1
     ·rw [show ((ndA ns node.toNat).1 != 1)=false from by simp [q4],cond_false];exact fin0
     ·rw [show ((ndA ns node.toNat).1 != 1)=true from by simp [q4],cond_true]
      refine fin _ fun h5 h6=>(codeP_eq ⟨ns,es,rd,[]⟩ node port t).2.2 ?_
      have h5:=beq_iff_eq.1 h5
      have hd:=hP.nd (i:=node.toNat) (by show node.toNat<ns.length;omega)
      have hr:=hP.rd
      simp only at hd hr
      refine⟨q1,q2,by omega,?_,⟨by omega,by omega,fun x hx=>?_⟩,h5,fun ⟨x,hx,hlt⟩=>?_⟩
      ·rw [q3]
       unfold Gh.prt
       show 0<if (ndA ns node.toNat).1=1 then (0:Int) else if (ndA ns node.toNat).1=3 then 2 else 1
       rw [zL q4];split <;> decide
      ·have:=h6 x hx;omega
      ·have:=h6 x (zAo hx)
       have hlt:rd<x:=hlt
       omega
    ·rw [show (port==0)=false from zS q3,cond_false];exact fin0
   ·rw [d_false q2,cond_false];exact fin0
  ·rw [d_false q1,cond_false];exact fin0
 ·rw [show (codeM ⟨ns,es,rd,[]⟩ != 0)=true from by simp [k1],cond_true,zK k1]
  simp
set_option maxRecDepth 100000 in
theorem lifted_MeanNone(os:Os)(started:os.Started)(H:Type)(enc:TypeId×Value->H) :
  ReturnsInHanded {} Tryd.checked os 3 .any (fun w args=>(Rows.meanNoneSpec.pre enc Tryd.prog Tryd.f3 [] false w args/\laidMetH Tryd.prog Rows.meanNoneRow.laid w)/\sizedMet enc Tryd.prog Tryd.f3 (OpenSpec.ofChange Rows.meanNoneSpec) false w args) (Rows.meanNoneSpec.post enc Tryd.prog Tryd.f3 false true false false):=by
 refine returnsInHanded_of_change_and (C:=Tryd.checked) (X:=fun w _=>laidMetH Tryd.prog Rows.meanNoneRow.laid w) (fun _ _ _ hh h=>h.of_heap hh) own started (by kernel_rfl) Tryd.func3
  (ChangeSpec.witness_shaped (enc:=enc) (C:=Tryd.checked) (os:=os) (X:=fun w _=>laidMetH Tryd.prog Rows.meanNoneRow.laid w) false (World.doorLaid Tryd.prog 400 os) #[.agg #[.slice none 0 0,.slice none 0 0,.int .i64 0],.int .i64 0,.int .i64 0,.slice none 0 0] 8 rfl (World.shaped_of_RefB (by kernel_rfl) (by kernel_rfl)) (by kernel_rfl) (by kernel_rfl) (by kernel_rfl) (door_met os _)) ?_
 intro W base args ds gs before hval0 hW _ hsz0 hL _
 have hgw:GW Gs W:=gw_of hL
 have hval:∀ (j:Nat) t v,Tryd.f3.params[j]? = some t->args[j]? = some v->Value.okWide Tryd.prog W .any base t v:=hval0
 have hW':=hW
 obtain⟨p,q,hA0,hV,rfl,hnf,_⟩:=hW
 have hA:DataW.TrodAll enc Tryd.prog W 0 (fun _=>true) true Tryd.f3.params.toList args.toList ds p:=hA0
 rw [Tryd.params3] at hA hval
 obtain⟨v0,vs0,d0,ds0,p0,q0,hargs,rfl,rfl,h0,r0⟩:=trodAll_cons hA
 obtain⟨v1,vs1,d1,ds1,p1,q1,rfl,rfl,rfl,h1,r1⟩:=trodAll_cons r0
 obtain⟨v2,vs2,d2,ds2,p2,q2,rfl,rfl,rfl,h2,r2⟩:=trodAll_cons r1
 obtain⟨v3,vs3,d3,ds3,p3,q3,rfl,rfl,rfl,h3,r3⟩:=trodAll_cons r2
 obtain⟨rfl,rfl,rfl⟩:=trodAll_nil r3
 obtain rfl:args = #[v0,v1,v2,v3]:=by cases args;simp_all
 obtain⟨rfl,rfl⟩:=trodVars_none hV
 have hall:=zm.1 hsz0
 clear hA0 hval0 hsz0
 simp only [List.append_nil] at hW'
 have hlt0:∀ x∈p0,x.block<W.heap.size:=fun x hx=>hW'.lt x (by simp [hx])
 have hlt1:∀ x∈p1,x.block<W.heap.size:=fun x hx=>hW'.lt x (by simp [hx])
 have hlt2:∀ x∈p2,x.block<W.heap.size:=fun x hx=>hW'.lt x (by simp [hx])
 have hlt3:∀ x∈p3,x.block<W.heap.size:=fun x hx=>hW'.lt x (by simp [hx])
 obtain⟨x0,g0,w0⟩:=open_kd (k:=.dat (.pair (.pair (.sl (.pair (.int .i64) (.pair (.int .i64) SE))) (.sl SE)) (.int .i64))) (by kernel_rfl) (hval 0 27 v0 rfl rfl) h0 (fun b off hm=>hnf b off (by simp [hm]))
 obtain⟨x1,g1,w1⟩:=open_kd (k:=.dat (.int .i64)) (by kernel_rfl) (hval 1 3 v1 rfl rfl) h1 (fun b off hm=>hnf b off (by simp [hm]))
 obtain⟨x2,g2,w2⟩:=open_kd (k:=.dat (.int .i64)) (by kernel_rfl) (hval 2 3 v2 rfl rfl) h2 (fun b off hm=>hnf b off (by simp [hm]))
 obtain⟨x3,g3,w3⟩:=open_kd (k:=.dat SG) (by kernel_rfl) (hval 3 28 v3 rfl rfl) h3 (fun b off hm=>hnf b off (by simp [hm]))
 obtain⟨N,hN⟩:=law_MeanNone x0 x1 x2 x3 w0 w1 w2 w3
 refine (sp_keep_MeanNone N (fun _=>False) W (x0,x1,x2,x3,()) (true,()) [v0,v1,v2,v3] (fun _ h=>h.elim) hgw ⟨v0,_,rfl,g0,⟨v1,_,rfl,g1,⟨v2,_,rfl,g2,⟨v3,_,rfl,g3,rfl⟩⟩⟩⟩ hN).mono ?_
 rintro e W' ⟨v,rfl,hg,hr⟩
 replace hg:=hg.old
 have hr:v=.bool true:=by simpa only [kvals,retV,Kd.val,Go.Abs.enc,RV] using hr
 subst hr
 exact⟨_,rfl,_,_,_,[],p0++(p1++(p2++(p3 ++ []))),[],hW',(trodAll_cons_mk (shut_bool (show Tryd.prog.underlying 4=some .bool by kernel_rfl) _) trodAll_mk0),(trodAll_cons_mk (Below.trod laidOut (by kernel_rfl) (zh (by kernel_rfl)) h0 hg hlt0) (trodAll_cons_mk (Below.trod laidOut (by kernel_rfl) (zh (by kernel_rfl)) h1 hg hlt1) (trodAll_cons_mk (Below.trod laidOut (by kernel_rfl) (zh (by kernel_rfl)) h2 hg hlt2) (trodAll_cons_mk (Below.trod laidOut (by kernel_rfl) (zh (by kernel_rfl)) h3 hg hlt3) trodAll_mk0)))),rfl,hg.frame _,fun h=>by cases h⟩
theorem meanNone_holds:Rows.MeanNoneSaid:=
 OpenClaim.holds_of_wide 3 Tryd.f3 rfl rfl rfl rfl rfl rfl rfl ⟨rfl,rfl,rfl,rfl,rfl⟩ rfl rfl rfl rfl rfl (by kernel_rfl) Tryd.func3 (by kernel_rfl)
  (zh (by kernel_rfl)) (by unfold Func.isWrapper;first | (rw [zK (by decide +kernel)];kernel_rfl) | (rw [zL (by decide +kernel)];exact⟨rfl,rfl⟩))
  (fun os started H enc _=>lifted_MeanNone os started H enc)
theorem meanNone_card:Rows.MeanNoneCardSaid:=
 Claim7.holds_tied_plain_at .later [] [.data] true (true, "e9a8fd604a51e15856effb0a19d24765d5131a69d51726de0e676d9b17878def") true meanNone_holds (fun _ h => by cases h) (by kernel_rfl) (fun _ h => by cases h) meanNone_row_tie rfl ⟨rfl, rfl⟩ (by kernel_rfl) rfl
  (fun f fn hf hfn=>by
   obtain rfl : f = 3 := Option.some.inj ((show Tryd.prog.funcNamed "watershed/watershedkeep.MeanNone" = some 3 by kernel_rfl).symm.trans hf) |>.symm
   obtain rfl:fn=Tryd.f3:=(zCK (Tryd.func3.symm.trans hfn)).symm
   exact⟨by kernel_rfl,fun j t ht=>by
    have h3:=zm.1 (show (Tryd.f3.params.toList.all fun t=>!(Tryd.prog.wantsStandIn t))=true by kernel_rfl) t (by rw [<- zp] at ht;exact zd ht)
    have h4:Tryd.prog.wantsStandIn t=false:=by simpa using h3
    exact h4⟩)
  (by kernel_rfl)
end Go.Proofs.YtnhjpicdijeagaaDoor
end
