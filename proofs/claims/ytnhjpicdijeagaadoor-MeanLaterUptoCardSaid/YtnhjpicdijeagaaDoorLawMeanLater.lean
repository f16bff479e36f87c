import Derived.Test.YtnhjpicdijeagaaDoorMeaR
import Derived.Test.YtnhjpicdijeagaaDoorFrameV
noncomputable section
namespace Go.Proofs.YtnhjpicdijeagaaDoor
open Go Go.ChangeShapes Go.WideShapes Go.ChangeAt Go.WideMaps Go.WideElems Go.RowKit Go.Abs Go.Bag
abbrev SI:Sh:=.sl (.int .i64)
abbrev SH:Sh:=.pair (.int .i64) (.pair (.int .i64) (.int .i64))
abbrev Yt:Type:=Int×Int×Int×Int×Int
abbrev Yr:Type:=Int×Int×Int
abbrev Yq:Type:=Int×Int×List (Int×Int×Int)
abbrev qio:List Kd:=[.dat (.pair (.pair (.sl (.pair (.int .i64) (.pair (.int .i64) SH))) (.sl SH)) (.int .i64)),.dat (.sl (.pair (.int .i64) (.pair (.int .i64) (.sl SH)))),.dat (.sl (.pair (.int .i64) (.pair (.int .i64) (.sl SH)))),.dat (.int .i64),.dat (.int .i64),.dat SI]
abbrev qim:List Kd:=[.dat (.bool)]
abbrev qas:Type:=Dens qim
def qoz(_N:Nat):Ctx:={ T:=[(3,⟨.int .i64,1,8,some (.int .i64),[.int .i64 (0:Int)],false,[]⟩),(27,⟨.struct [(0,25),(2,3)],3,56,some (.pair (.pair (.sl (.pair (.int .i64) (.pair (.int .i64) SH))) (.sl SH)) (.int .i64)),[.nil,.nil,.int .i64 (0:Int)],false,[]⟩),(28,⟨.slice 3,1,24,some SI,[.nil],false,[]⟩),(41,⟨.slice 43,1,24,some (.sl (.pair (.int .i64) (.pair (.int .i64) (.sl SH)))),[.nil],false,[]⟩),(43,⟨.struct [(0,3),(1,3),(2,29)],3,40,some (.pair (.int .i64) (.pair (.int .i64) (.sl SH))),[.int .i64 (0:Int),.int .i64 (0:Int),.nil],false,[]⟩)],G:=findE [mkD 6 qin qil (qci _N),mkQ 8 qbY [.dat (.sl (.pair (.int .i64) (.pair (.int .i64) (.sl SH))))] (fun _x=>(qaT _N _x).map fun _y=>(_y,())),mkP 9 qhw qhr (qdW _N)],I:=findI [],N:=_N,n:=130,fx:=[1],fl:=0,gs:=Gs }
def qdI(_N:Nat)(_v41:List Yq)(_v42:List Yq)(_v43:Int)(_v44:Int)(_v45:List Int)(_v46:List Yr)(_v47:Int)(_v48:List Yr)(_v49:Int)(_v50:List Yt)(_v51:List Yr)(_v52:Int)(_v53:List Yq):Option qas:=
 ((qci _N (((_v50,_v51),_v52),_v53,_v43,_v44,_v45,())).bind fun _y62=>((qci _N (((_v50,_v51),_v52),_v41,(-1:Int),_v44,_v45,())).bind fun _y63=>((qdW _N (_v46,_v47,_y62.1,_y62.2.1,())).bind fun _y64=>(bif (!_y64.1) then (some (false,())) else (bif (_y63.2.1==(0:Int)) then (some (false,())) else ((qci _N (((_v50,_v51),_v52),_v42,_v43,_v44,_v45,())).bind fun _y65=>(bif (_y65.2.1 != (0:Int)) then (some (true,())) else (bif (decide ((IntKind.i64.wrap ((_v41.length:Int)+(_v42.length:Int)))>(60:Int))) then (some (true,())) else ((qdW _N (_v46,_v47,_v48,_v49,())).bind fun _y66=>(some (_y66.1,())))))))))))
def qdH(_N:Nat)(_k67:((List Yq)×(List Yq)×Int×Int×List Int×(List Yr)×Int×(List Yr)×Int×(List Yt)×(List Yr)×Int×(List Yq))->Option qas)(_v27:List Yq)(_v28:List Yq)(_v29:Int)(_v30:Int)(_v31:List Int)(_v32:List Yr)(_v33:Int)(_v34:List Yr)(_v35:Int)(_v37:List Yt)(_v38:List Yr)(_v39:Int)(_v36:Int)(_v40:List Yq)(_kn68:((List Yq)×(List Yq)×Int×Int×List Int×(List Yr)×Int×(List Yr)×Int×(List Yt)×(List Yr)×Int)×(Int×(List Yq))->Option qas):Option qas:=
 (bif (decide (_v36>=(0:Int))) then (bif (decide (0<=_v36)&&decide (_v36<(_v27.length:Int))) then (bif (decide ((_v40.length+([((nth ((0:Int),((0:Int),[])) _v27 (_v36).toNat).1,(((nth ((0:Int),((0:Int),[])) _v27 (_v36).toNat).2).1,((nth ((0:Int),((0:Int),[])) _v27 (_v36).toNat).2).2))]:List Yq).length)*40<=140737488355328)&&Nat.ble 1 40) then (_kn68 ((_v27,_v28,_v29,_v30,_v31,_v32,_v33,_v34,_v35,_v37,_v38,_v39),((IntKind.i64.wrap (_v36 - (1:Int))),(_v40++([((nth ((0:Int),((0:Int),[])) _v27 (_v36).toNat).1,(((nth ((0:Int),((0:Int),[])) _v27 (_v36).toNat).2).1,((nth ((0:Int),((0:Int),[])) _v27 (_v36).toNat).2).2))]:List Yq))))) else none) else none) else (_k67 (_v27,_v28,_v29,_v30,_v31,_v32,_v33,_v34,_v35,_v37,_v38,_v39,_v40)))
def qfo(_N:Nat)(_v15:List Yq)(_v16:List Yq)(_v17:Int)(_v18:Int)(_v19:List Int)(_v20:List Yr)(_v21:Int)(_v22:List Yt)(_v23:List Yr)(_v24:Int):Option qas:=
 (((fun _x=>(qaT _N _x).map fun _y=>(_y,())) (_v16,_v15,())).bind fun _y60=>((qci _N (((_v22,_v23),_v24),_y60.1,_v17,_v18,_v19,())).bind fun _y61=>(joinD (fun (_s:(List Yq)×(List Yq)×Int×Int×List Int×(List Yr)×Int×(List Yr)×Int×(List Yt)×(List Yr)×Int×(List Yq))=>qdI _N _s.1 _s.2.1 _s.2.2.1 _s.2.2.2.1 _s.2.2.2.2.1 _s.2.2.2.2.2.1 _s.2.2.2.2.2.2.1 _s.2.2.2.2.2.2.2.1 _s.2.2.2.2.2.2.2.2.1 _s.2.2.2.2.2.2.2.2.2.1 _s.2.2.2.2.2.2.2.2.2.2.1 _s.2.2.2.2.2.2.2.2.2.2.2.1 _s.2.2.2.2.2.2.2.2.2.2.2.2) fun _k67=>(loopE (fun (_c:(List Yq)×(List Yq)×Int×Int×List Int×(List Yr)×Int×(List Yr)×Int×(List Yt)×(List Yr)×Int) (_s:Int×(List Yq)) _kn=>qdH _N _k67 _c.1 _c.2.1 _c.2.2.1 _c.2.2.2.1 _c.2.2.2.2.1 _c.2.2.2.2.2.1 _c.2.2.2.2.2.2.1 _c.2.2.2.2.2.2.2.1 _c.2.2.2.2.2.2.2.2.1 _c.2.2.2.2.2.2.2.2.2.1 _c.2.2.2.2.2.2.2.2.2.2.1 _c.2.2.2.2.2.2.2.2.2.2.2 _s.1 _s.2 _kn) _N (_v15,_v16,_v17,_v18,_v19,_v20,_v21,_y61.1,_y61.2.1,_v22,_v23,_v24) ((IntKind.i64.wrap ((_v15.length:Int) - (1:Int))),[])))))
def qdG(_N:Nat)(_k69:((List Yq)×(List Yq)×Int×Int×List Int×(List Yr)×Int×(List Yt)×(List Yr)×Int)->Option qas)(_v2:List Yq)(_v3:List Yq)(_v4:Int)(_v5:Int)(_v6:List Int)(_v7:List Yr)(_v8:Int)(_v9:List Yq)(_v10:Int)(_v12:List Yt)(_v13:List Yr)(_v14:Int)(_v11:Int)(_kn70:((List Yq)×(List Yq)×Int×Int×List Int×(List Yr)×Int×(List Yq)×Int×(List Yt)×(List Yr)×Int)×Int->Option qas):Option qas:=
 (bif (decide (_v11<_v10)) then (bif (decide (0<=_v11)&&decide (_v11<(_v9.length:Int))) then (bif (decide ((_v6.length:Int)>(0:Int))) then (bif (decide (0<=(0:Int))&&decide ((0:Int)<(_v6.length:Int))) then (bif (decide ((((nth ((0:Int),((0:Int),[])) _v9 (_v11).toNat).2).1)<=(nth (0:Int) _v6 (0:Int).toNat))) then (some (true,())) else (_kn70 ((_v2,_v3,_v4,_v5,_v6,_v7,_v8,_v9,_v10,_v12,_v13,_v14),(IntKind.i64.wrap (_v11+(1:Int)))))) else none) else (_kn70 ((_v2,_v3,_v4,_v5,_v6,_v7,_v8,_v9,_v10,_v12,_v13,_v14),(IntKind.i64.wrap (_v11+(1:Int)))))) else none) else (_k69 (_v2,_v3,_v4,_v5,_v6,_v7,_v8,_v12,_v13,_v14)))
def qiS(_N:Nat)(_x1:(List Yt×List Yr)×Int)(_x2:List Yq)(_x3:List Yq)(_x4:Int)(_x5:Int)(_x6:List Int):Option qas:=
 ((qci _N (((_x1.1.1,_x1.1.2),_x1.2),_x2,_x4,_x5,_x6,())).bind fun _y59=>(joinD (fun (_s:(List Yq)×(List Yq)×Int×Int×List Int×(List Yr)×Int×(List Yt)×(List Yr)×Int)=>qfo _N _s.1 _s.2.1 _s.2.2.1 _s.2.2.2.1 _s.2.2.2.2.1 _s.2.2.2.2.2.1 _s.2.2.2.2.2.2.1 _s.2.2.2.2.2.2.2.1 _s.2.2.2.2.2.2.2.2.1 _s.2.2.2.2.2.2.2.2.2) fun _k69=>(loopE (fun (_c:(List Yq)×(List Yq)×Int×Int×List Int×(List Yr)×Int×(List Yq)×Int×(List Yt)×(List Yr)×Int) (_s:Int) _kn=>qdG _N _k69 _c.1 _c.2.1 _c.2.2.1 _c.2.2.2.1 _c.2.2.2.2.1 _c.2.2.2.2.2.1 _c.2.2.2.2.2.2.1 _c.2.2.2.2.2.2.2.1 _c.2.2.2.2.2.2.2.2.1 _c.2.2.2.2.2.2.2.2.2.1 _c.2.2.2.2.2.2.2.2.2.2.1 _c.2.2.2.2.2.2.2.2.2.2.2 _s _kn) _N (_x2,_x3,_x4,_x5,_x6,_y59.1,_y59.2.1,_x3,(_x3.length:Int),_x1.1.1,_x1.1.2,_x1.2) (0:Int))))
def qfr(_N:Nat)(_x:Dens qio):Option qas:=qiS _N _x.1 _x.2.1 _x.2.2.1 _x.2.2.2.1 _x.2.2.2.2.1 _x.2.2.2.2.2.1
theorem qmE(_N:Nat):SpecD Tryd.prog Gs 4 qio qim (qfr _N):=mkSpD (fn:=Tryd.f4) (c:=ql Tryd.f4) (C:=qoz _N)
  (a:=.two .none (.two .none (.join 1 ⟨[(1,.sl (.pair (.int .i64) (.pair (.int .i64) (.sl SH)))),(2,.sl (.pair (.int .i64) (.pair (.int .i64) (.sl SH)))),(3,.int .i64),(4,.int .i64),(5,.sl (.int .i64)),(6,.ptr 0 0),(13,.sl SH),(14,.int .i64)],[.cells [.sl (.pair (.int .i64) (.pair (.int .i64) SH)),.sl SH,.int .i64]]⟩ (.two .none (.one (.loop 1 ⟨[(1,.sl (.pair (.int .i64) (.pair (.int .i64) (.sl SH)))),(2,.sl (.pair (.int .i64) (.pair (.int .i64) (.sl SH)))),(3,.int .i64),(4,.int .i64),(5,.sl (.int .i64)),(6,.ptr 0 0),(13,.sl SH),(14,.int .i64),(36,.sl (.pair (.int .i64) (.pair (.int .i64) (.sl SH)))),(37,.int .i64),(38,.int .i64)],[.cells [.sl (.pair (.int .i64) (.pair (.int .i64) SH)),.sl SH,.int .i64]]⟩ [9] (.two .none (.two .none (.two (.one (.two .none (.two (.draw 0 [.pure,.pure,.pure,.pure,.pure,.rd [1],.pure,.pure,.pure,.pure,.pure]) .none))) .none)))))) (.two (.draw 0 [.rd [0],.pure,.pure,.pure,.pure,.pure,.pure,.full,.pure,.pure,.pure,.pure,.pure]) (.two .none (.join 2 ⟨[(1,.sl (.pair (.int .i64) (.pair (.int .i64) (.sl SH)))),(2,.sl (.pair (.int .i64) (.pair (.int .i64) (.sl SH)))),(3,.int .i64),(4,.int .i64),(5,.sl (.int .i64)),(6,.ptr 0 0),(13,.sl SH),(14,.int .i64),(17,.sl SH),(18,.int .i64),(19,.slc 1 0)],[.cells [.sl (.pair (.int .i64) (.pair (.int .i64) SH)),.sl SH,.int .i64],.row false 0 43 (.pair (.int .i64) (.pair (.int .i64) (.sl SH)))]⟩ (.two .none (.one (.obj 19 43 (.pair (.int .i64) (.pair (.int .i64) (.sl SH))) (.loop 2 ⟨[(1,.sl (.pair (.int .i64) (.pair (.int .i64) (.sl SH)))),(2,.sl (.pair (.int .i64) (.pair (.int .i64) (.sl SH)))),(3,.int .i64),(4,.int .i64),(5,.sl (.int .i64)),(6,.ptr 0 0),(13,.sl SH),(14,.int .i64),(17,.sl SH),(18,.int .i64),(19,.slc 1 0),(20,.int .i64)],[.cells [.sl (.pair (.int .i64) (.pair (.int .i64) SH)),.sl SH,.int .i64],.row false 0 43 (.pair (.int .i64) (.pair (.int .i64) (.sl SH)))]⟩ [9,13] .none)))) .none))))))
  (by kernel_rfl) rfl (by kernel_rfl) (by kernel_rfl) ⟨rfl,by unfold TOk;kernel_rfl,qao rfl rfl (zG.2 ⟨qrR _N,(zG.2 ⟨qft _N,(zG.2 ⟨qva _N,(zC _)⟩)⟩)⟩),qan rfl rfl (zC _),rfl⟩ (fun _x=>by kernel_rfl)
theorem qAf{N:Nat}(hN:1000<=N){feeds more:List Fd}(hf:feeds.length<=1048576)(hm:more.length<=1048576){node port:Int}{t:List Int}{ns:List Nd}{es:List Ed}{rd:Int}
  (hl:∀ f∈more,¬ (0<t.length/\f.2.1<=nth 0 t 0)) :
  qdI N feeds more node port t (atF ⟨ns,es,rd,feeds⟩ node port t).1 (atF ⟨ns,es,rd,feeds⟩ node port t).2 (atF ⟨ns,es,rd,more++feeds⟩ node port t).1 (atF ⟨ns,es,rd,more++feeds⟩ node port t).2 ns es rd feeds.reverse=some (true,()):=by
 have l1:=at_len ⟨ns,es,rd,feeds⟩ node port t
 have hn:=at_neg ⟨ns,es,rd,feeds⟩ port t
 simp only [qdI]
 rw [At_eq N ns es rd feeds.reverse node port t,At_eq N ns es rd feeds (-1) port t,At_eq N ns es rd more node port t]
 simp only [Option.bind_some,qEE,same_eq (N:=N) (a:=(atF ⟨ns,es,rd,feeds⟩ node port t).1) (by omega) (by omega),and_self,decide_true,Bool.not_true,cond_false,zO hn]
 by_cases hz:(atF ⟨ns,es,rd,more⟩ node port t).2=0
 case neg=>rw [bne_iff_ne.2 hz,cond_true]
 rw [hz,bne_self_eq_false,cond_false]
 have hw:IntKind.i64.wrap ((feeds.length:Int)+(more.length:Int))=(feeds.length:Int)+(more.length:Int):=w64 (by omega) (by omega)
 rw [hw]
 by_cases h60:(feeds.length:Int)+(more.length:Int)>60
 ·rw [qY h60,cond_true]
 rw [qah h60,cond_false]
 obtain⟨k1,k2,k3,-⟩:=qno hz
 have e:atF ⟨ns,es,rd,more++feeds⟩ node port t=atF ⟨ns,es,rd,feeds⟩ node port t:=by
  refine qvz rfl (qvj k2 (by omega)) (qxU ..) fun m1 m2 m3=>?_
  have hP:=qmc (p:=⟨ns,es,rd,feeds⟩) k1 (by rw [<- qvj k2 (by omega)];exact m2)
  obtain⟨v,-⟩:=qxp ((qmd ⟨ns,es,rd,more⟩ node port t).2.1 k3)
  have hlen:=v.len
  have hd:=hP.nd v.lt
  simp only at hlen hd
  have ht:0<t.length:=by omega
  have hh:nth 0 t 0=t.headD 0:=by
   cases t with
   | nil=>rfl
   | cons x r=>rfl
  refine qrr hP.gr rd (e0:=t.headD 0) (fun n e he=>?_) _ (zBE _)
  funext z
  rw [qix,qAm (fun f hf=>?_) n he]
  ·exact zBG _
  ·have:=hl f hf
   rw [hh] at this
   exact Int.not_le.1 fun q=>this ⟨ht,q⟩
 rw [e]
 simp only [and_self,decide_true]
theorem qyu{N:Nat}(hN:1048577<N){feeds more:List Fd}(hf:feeds.length<=1048576)(hm:more.length<=1048576)(node port:Int)(t:List Int)(ns:List Nd)(es:List Ed)(rd:Int)
  (hl:∀ f∈more,¬ (0<t.length/\f.2.1<=nth 0 t 0)) :
  qfo N feeds more node port t (atF ⟨ns,es,rd,feeds⟩ node port t).1 (atF ⟨ns,es,rd,feeds⟩ node port t).2 ns es rd=some (true,()):=by
 simp only [qfo,quF (N:=N) hm hf (by omega),Option.map_some,Option.bind_some,joinD,loopE]
 rw [At_eq N ns es rd (more++feeds) node port t]
 simp only [Option.bind_some]
 generalize hA:(atF ⟨ns,es,rd,feeds⟩ node port t)=A
 generalize hB:(atF ⟨ns,es,rd,more++feeds⟩ node port t)=B
 have hE:=qAf (N:=N) (by omega) hf hm (ns:=ns) (es:=es) (rd:=rd) (node:=node) (port:=port) hl
 rw [hA,hB] at hE
 have key:=qcJ (g:=fun (s:Int×List Fd) kn=>qdH N (fun s=>qdI N s.1 s.2.1 s.2.2.1 s.2.2.2.1 s.2.2.2.2.1 s.2.2.2.2.2.1 s.2.2.2.2.2.2.1 s.2.2.2.2.2.2.2.1 s.2.2.2.2.2.2.2.2.1 s.2.2.2.2.2.2.2.2.2.1 s.2.2.2.2.2.2.2.2.2.2.1 s.2.2.2.2.2.2.2.2.2.2.2.1 s.2.2.2.2.2.2.2.2.2.2.2.2) feeds more node port t A.1 A.2 B.1 B.2 ns es rd s.1 s.2 (backE (feeds,more,node,port,t,A.1,A.2,B.1,B.2,ns,es,rd) kn)) (k:=some (true,())) feeds.length (fun i=>((feeds.length:Int) - 1 - (i:Int),feeds.reverse.take i))
  (fun i hi kn=>by
   have e1:((feeds.length:Int) - 1 - (i:Int))=((feeds.length - 1 - i:Nat):Int):=by omega
   have e2:feeds.length - 1 - i<feeds.length:=by omega
   have e0:nth ((0:Int),(0:Int),([]:List Row)) feeds (feeds.length - 1 - i)=nth zF feeds.reverse i:=by
    rw [qfj e2,qfj (show i<feeds.reverse.length by rw [zBD];exact hi),List.getElem_reverse]
   have hl:((feeds.reverse.take i).length+1)*40<=140737488355328:=by
    rw [zAN,zBD];omega
   have e3:IntKind.i64.wrap (((feeds.length - 1 - i:Nat):Int) - 1)=(feeds.length:Int) - 1 - ((i+1:Nat):Int):=by
    rw [w64 (by omega) (by omega)];omega
   simp only [qdH,e1,lt_d e2,ge0_d,Int.toNat_natCast,Bool.and_self,cond_true,e0,qAA,zBP,qY (show ((feeds.length - 1 - i:Nat):Int)>=0 by omega),qY hl,e3,qaq,show Nat.ble 1 40=true from rfl]
   rw [qeS (z:=zF) (show i<feeds.reverse.length by rw [zBD];exact hi)])
  (fun kn=>by
   have e1:¬ ((feeds.length:Int) - 1 - (feeds.length:Int))>=0:=by omega
   have e2:feeds.reverse.take feeds.length=feeds.reverse:=zAl (by rw [zBD];exact Nat.le_refl _)
   simp only [qdH,qah e1,cond_false,e2]
   exact hE)
  (N:=N) (by omega)
 have e4:IntKind.i64.wrap ((feeds.length:Int) - 1)=(feeds.length:Int) - 1 - ((0:Nat):Int):=by
  rw [w64 (by omega) (by omega)];omega
 rw [e4]
 exact key
theorem law_MeanLater(p:(List Yt×List Yr)×Int)(feeds more:List Yq)(node port:Int)(t:List Int)(_h1:wfS (.pair (.pair (.sl (.pair (.int .i64) (.pair (.int .i64) SH))) (.sl SH)) (.int .i64)) p)
  (_h2:wfS (.sl (.pair (.int .i64) (.pair (.int .i64) (.sl SH)))) feeds) (_h3:wfS (.sl (.pair (.int .i64) (.pair (.int .i64) (.sl SH)))) more) (_h4:wfS (.int .i64) node) (_h5:wfS (.int .i64) port) (_h6:wfS SI t)
  (hf:feeds.length<=1048576) (hm:more.length<=1048576):∃ N,qfr N (p,feeds,more,node,port,t,())=some (true,()):=by
 obtain⟨⟨ns,es⟩,rd⟩:=p
 obtain⟨N,hN⟩:∃ N,N=10000000:=⟨_,rfl⟩
 refine⟨N,?_⟩
 simp only [qfr,qiS,joinD,loopE]
 rw [At_eq N ns es rd feeds node port t]
 simp only [Option.bind_some]
 generalize hA:(atF ⟨ns,es,rd,feeds⟩ node port t)=A
 have hb:∀ (K:_->Option qas) (i:Nat),i<more.length->∀ kn,qdG N K feeds more node port t A.1 A.2 more (more.length:Int) ns es rd (i:Int) (backE (feeds,more,node,port,t,A.1,A.2,more,(more.length:Int),ns,es,rd) kn) =
   if 0<t.length/\(nth zF more i).2.1<=nth 0 t 0 then some (true,()) else kn ((i:Int)+1):=fun K i hi kn=>by
  have e0:nth ((0:Int),(0:Int),([]:List Row)) more i=nth zF more i:=rfl
  simp only [qdG,lt_d hi,ge0_d,Int.toNat_natCast,Bool.and_self,cond_true,e0,ix1 hi (by omega),qaq]
  by_cases q1:0<t.length
  ·rw [qY (show (t.length:Int)>0 by omega),cond_true,qY (show (0:Int)<=0 by omega),Bool.and_self,cond_true]
   by_cases q2:(nth zF more i).2.1<=nth 0 t 0
   ·rw [zJ ⟨q1,q2⟩,show decide ((nth zF more i).2.1<=nth 0 t (0:Int).toNat)=true from decide_eq_true q2,cond_true]
   ·rw [zL (fun h=>q2 h.2),show decide ((nth zF more i).2.1<=nth 0 t (0:Int).toNat)=false from zAi q2,cond_false]
  ·rw [qah (show ¬ (t.length:Int)>0 by omega),cond_false,zL (fun h=>q1 h.1)]
 by_cases hex:∃ i,i<more.length/\(0<t.length/\(nth zF more i).2.1<=nth 0 t 0)
 ·exact qju (n:=more.length) (by omega) (fun i=>0<t.length/\(nth zF more i).2.1<=nth 0 t 0) (fun i hi hq kn=>by rw [hb _ i hi,zJ hq]) (fun i hi hq kn=>by rw [hb _ i hi,zL hq]) (by omega) hex
 ·refine qcK (n:=more.length) (by omega) (fun i hi kn=>?_) (fun kn=>?_) (by omega)
  ·rw [hb _ i hi,zL (fun h=>hex ⟨i,hi,h⟩)]
  ·simp only [qdG,qbb,cond_false]
   subst hA
   refine qyu (by omega) hf hm node port t ns es rd fun f hf h=>?_
   obtain⟨i,hi,rfl⟩:=qds (z:=zF) hf
   exact hex ⟨i,hi,h⟩
set_option maxRecDepth 100000 in
theorem qmb(H:Type)(enc:TypeId×Value->H)(W:World)(base:Nat)(args:Array Value)(ds gs:List (DataW H))(before:List MemPlace)
  (hval0:∀ (j:Nat) t v,Tryd.f4.params[j]? = some t->args[j]? = some v->Value.okWide Tryd.prog W .any base t v)
  (hW:DataW.Whole enc Tryd.prog Tryd.f4.params.toList Rows.meanLaterSpec.vars false W args.toList ds gs before) (hk:Rows.uptoSmall H (ds++gs)=true) (hL:laidMetH Tryd.prog Rows.meanLaterUptoRow.laid W) :
  Calls Tryd.prog 4 args W fun e W'=>∃ v,e=.returned v/\Rows.meanLaterSpec.post enc Tryd.prog Tryd.f4 false true false false W args v W':=by
 have hgw:GW Gs W:=gw_of hL
 have hval:∀ (j:Nat) t v,Tryd.f4.params[j]? = some t->args[j]? = some v->Value.okWide Tryd.prog W .any base t v:=hval0
 have hW':=hW
 obtain⟨p,q,hA0,hV,rfl,hnf,_⟩:=hW
 have hA:DataW.TrodAll enc Tryd.prog W 0 (fun _=>true) true Tryd.f4.params.toList args.toList ds p:=hA0
 rw [Tryd.params4] at hA hval
 obtain⟨v0,vs0,d0,ds0,p0,q0,hargs,rfl,rfl,h0,r0⟩:=trodAll_cons hA
 obtain⟨v1,vs1,d1,ds1,p1,q1,rfl,rfl,rfl,h1,r1⟩:=trodAll_cons r0
 obtain⟨v2,vs2,d2,ds2,p2,q2,rfl,rfl,rfl,h2,r2⟩:=trodAll_cons r1
 obtain⟨v3,vs3,d3,ds3,p3,q3,rfl,rfl,rfl,h3,r3⟩:=trodAll_cons r2
 obtain⟨v4,vs4,d4,ds4,p4,q4,rfl,rfl,rfl,h4,r4⟩:=trodAll_cons r3
 obtain⟨v5,vs5,d5,ds5,p5,q5,rfl,rfl,rfl,h5,r5⟩:=trodAll_cons r4
 obtain⟨rfl,rfl,rfl⟩:=trodAll_nil r5
 obtain rfl:args = #[v0,v1,v2,v3,v4,v5]:=by cases args;simp_all
 obtain⟨rfl,rfl⟩:=trodVars_none hV
 have hall:Rows.uptoBulkAll [d0,d1,d2,d3,d4,d5]<=1048576:=zV hk
 simp only [Rows.uptoBulkAll] at hall
 clear hA0 hval0 hk
 simp only [List.append_nil] at hW'
 have hlt0:∀ x∈p0,x.block<W.heap.size:=fun x hx=>hW'.lt x (by simp [hx])
 have hlt1:∀ x∈p1,x.block<W.heap.size:=fun x hx=>hW'.lt x (by simp [hx])
 have hlt2:∀ x∈p2,x.block<W.heap.size:=fun x hx=>hW'.lt x (by simp [hx])
 have hlt3:∀ x∈p3,x.block<W.heap.size:=fun x hx=>hW'.lt x (by simp [hx])
 have hlt4:∀ x∈p4,x.block<W.heap.size:=fun x hx=>hW'.lt x (by simp [hx])
 have hlt5:∀ x∈p5,x.block<W.heap.size:=fun x hx=>hW'.lt x (by simp [hx])
 obtain⟨x0,g0,w0⟩:=qfn (k:=.dat (.pair (.pair (.sl (.pair (.int .i64) (.pair (.int .i64) SH))) (.sl SH)) (.int .i64))) (by kernel_rfl) (hval 0 27 v0 rfl rfl) h0 (fun b off hm=>hnf b off (by simp [hm]))
 obtain⟨x1,g1,w1⟩:=qfn (k:=.dat (.sl (.pair (.int .i64) (.pair (.int .i64) (.sl SH))))) (by kernel_rfl) (hval 1 41 v1 rfl rfl) h1 (fun b off hm=>hnf b off (by simp [hm]))
 obtain⟨x2,g2,w2⟩:=qfn (k:=.dat (.sl (.pair (.int .i64) (.pair (.int .i64) (.sl SH))))) (by kernel_rfl) (hval 2 41 v2 rfl rfl) h2 (fun b off hm=>hnf b off (by simp [hm]))
 obtain⟨x3,g3,w3⟩:=qfn (k:=.dat (.int .i64)) (by kernel_rfl) (hval 3 3 v3 rfl rfl) h3 (fun b off hm=>hnf b off (by simp [hm]))
 obtain⟨x4,g4,w4⟩:=qfn (k:=.dat (.int .i64)) (by kernel_rfl) (hval 4 3 v4 rfl rfl) h4 (fun b off hm=>hnf b off (by simp [hm]))
 obtain⟨x5,g5,w5⟩:=qfn (k:=.dat SI) (by kernel_rfl) (hval 5 28 v5 rfl rfl) h5 (fun b off hm=>hnf b off (by simp [hm]))
 have z1:x1.length<=1048576:=zn (qtt (t:=41) (e:=43) (by kernel_rfl) g1 h1) (by omega)
 have z2:x2.length<=1048576:=zn (qtt (t:=41) (e:=43) (by kernel_rfl) g2 h2) (by omega)
 obtain⟨N,hN⟩:=law_MeanLater x0 x1 x2 x3 x4 x5 w0 w1 w2 w3 w4 w5 z1 z2
 refine (qmE N (fun _=>False) W (x0,x1,x2,x3,x4,x5,()) (true,()) [v0,v1,v2,v3,v4,v5] (fun _ h=>h.elim) hgw ⟨v0,_,rfl,g0,⟨v1,_,rfl,g1,⟨v2,_,rfl,g2,⟨v3,_,rfl,g3,⟨v4,_,rfl,g4,⟨v5,_,rfl,g5,rfl⟩⟩⟩⟩⟩⟩ hN).mono ?_
 rintro e W' ⟨v,rfl,hg,hr⟩
 replace hg:=hg.old
 have hr:v=.bool true:=by simpa only [kvals,retV,Kd.val,Go.Abs.enc,RV] using hr
 subst hr
 exact⟨_,rfl,_,_,_,[],p0++(p1++(p2++(p3++(p4++(p5 ++ []))))),[],hW',(trodAll_cons_mk (shut_bool (show Tryd.prog.underlying 4=some .bool by kernel_rfl) _) trodAll_mk0),(trodAll_cons_mk (Below.trod laidOut (by kernel_rfl) (zV (by kernel_rfl)) h0 hg hlt0) (trodAll_cons_mk (Below.trod laidOut (by kernel_rfl) (zV (by kernel_rfl)) h1 hg hlt1) (trodAll_cons_mk (Below.trod laidOut (by kernel_rfl) (zV (by kernel_rfl)) h2 hg hlt2) (trodAll_cons_mk (Below.trod laidOut (by kernel_rfl) (zV (by kernel_rfl)) h3 hg hlt3) (trodAll_cons_mk (Below.trod laidOut (by kernel_rfl) (zV (by kernel_rfl)) h4 hg hlt4) (trodAll_cons_mk (Below.trod laidOut (by kernel_rfl) (zV (by kernel_rfl)) h5 hg hlt5) trodAll_mk0)))))),rfl,hg.frame _,fun h=>by cases h⟩
set_option maxRecDepth 100000 in
theorem qpf(os:Os){H:Type}(enc:TypeId×Value->H):∃ places,DataW.whole enc Tryd.prog ((World.doorLaid Tryd.prog 400 os).forCall (fun _ _=>0) ⟨#[],#[.agg #[.slice none 0 0,.slice none 0 0,.int .i64 0],.slice none 0 0,.slice none 0 0,.int .i64 0,.int .i64 0,.slice none 0 0],[]⟩).memory Tryd.f4.params.toList Rows.meanLaterSpec.vars false (#[.agg #[.slice none 0 0,.slice none 0 0,.int .i64 0],.slice none 0 0,.slice none 0 0,.int .i64 0,.int .i64 0,.slice none 0 0]:Array Value).toList 8=some ([.agg [.agg [.nil,.nil],.lit (.int .i64 0)],.nil,.nil,.lit (.int .i64 0),.lit (.int .i64 0),.nil],[],places):=
 ⟨[],by kernel_rfl⟩
set_option maxRecDepth 100000 in
theorem lifted_MeanLater(os:Os)(started:os.Started)(H:Type)(enc:TypeId×Value->H)(F:Stop.Interp) :
  ReturnsInHanded {} Tryd.checked os 4 .any ((Rows.OpenSpec.upto Rows.meanLaterSpec).preRow enc Tryd.prog Tryd.f4 Rows.meanLaterUptoRow.domain false Rows.meanLaterUptoRow.laid) (((Rows.OpenSpec.upto Rows.meanLaterSpec).at F).post enc Tryd.prog Tryd.f4 false true false false):=by
 obtain⟨places,hx⟩:=qpf os enc
 refine returnsInHanded_of_row (C:=Tryd.checked) (s:=Rows.OpenSpec.upto Rows.meanLaterSpec) own started (by kernel_rfl) Tryd.func4
  (witness_row_atRef (enc:=enc) (C:=Tryd.checked) false (World.doorLaid Tryd.prog 400 os) #[.agg #[.slice none 0 0,.slice none 0 0,.int .i64 0],.slice none 0 0,.slice none 0 0,.int .i64 0,.int .i64 0,.slice none 0 0] rfl (by kernel_rfl) (by kernel_rfl) (by kernel_rfl)
   (OpenSpec.preRow_of_cond 8 hx (by kernel_rfl) (fun k hk=>by cases hk;kernel_rfl) (by kernel_rfl) (door_met os _))) ?_
 intro W base args ds gs before hval hW _ hk _ hL _ _
 exact qmb H enc W base args ds gs before hval hW (hk _ rfl) hL
theorem meanLater_holds:Rows.MeanLaterUptoSaid:=
 OpenClaim.holds_of_cond 4 Tryd.f4 rfl rfl rfl rfl rfl rfl rfl ⟨rfl,rfl,rfl,rfl,rfl⟩ rfl rfl rfl rfl rfl (by kernel_rfl) Tryd.func4 (by kernel_rfl)
  (zV (by kernel_rfl)) (by unfold Func.isWrapper;first | (rw [zJ (by decide +kernel)];kernel_rfl) | (rw [zL (by decide +kernel)];exact⟨rfl,rfl⟩))
  (fun os started H enc _ F=>by rw [OpenClaim.pre_eq_preRow];exact lifted_MeanLater os started H enc F)
theorem meanLater_card:Rows.MeanLaterUptoCardSaid:=
 Claim7.holds_tied_plain_at .later [] _ _ _ _ meanLater_holds (fun _ h=>by cases h) (by kernel_rfl) (fun _ h=>by cases h) meanLaterUpto_row_tie rfl ⟨rfl,rfl⟩ (by kernel_rfl) rfl
  (fun f fn hf hfn=>by
   obtain rfl : f = 4 := Option.some.inj ((show Tryd.prog.funcNamed "watershed/watershedkeep.MeanLater" = some 4 by kernel_rfl).symm.trans hf) |>.symm
   obtain rfl:fn=Tryd.f4:=(zAj (Tryd.func4.symm.trans hfn)).symm
   exact⟨by kernel_rfl,fun j t ht=>by
    have h3:=zm.1 (show (Tryd.f4.params.toList.all fun t=>!(Tryd.prog.wantsStandIn t))=true by kernel_rfl) t (by rw [<- zp] at ht;exact zh ht)
    have h4:Tryd.prog.wantsStandIn t=false:=by simpa using h3
    exact h4⟩)
  (by kernel_rfl)
end Go.Proofs.YtnhjpicdijeagaaDoor
end
