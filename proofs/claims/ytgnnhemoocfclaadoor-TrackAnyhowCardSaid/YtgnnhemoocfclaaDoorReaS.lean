import Derived.Test.YtgnnhemoocfclaaDoorRea
import Derived.Test.YtgnnhemoocfclaaDoorReaQ
namespace Go.Proofs.YtgnnhemoocfclaaDoor.Rea
open Go.Abs
open Go.Smy (Sm qw qy qaH leqP qaJ thenS)
open Go.Proofs.YtgnnhemoocfclaaDoor.Gh (Nd Ed nsum qaP qdp GrOk qbJ codeG qld)
theorem qAi(N:Nat){x:Nd}(h:qaP x=true):qec N (x,())=some (nsum x,0,()):=by
 have hx:=qdp.1 h
 have hm:qbX N ((x.1,(x.2.1,(x.2.2.1,(x.2.2.2.1,x.2.2.2.2)))),())=some (true,()):=(Gh.may_eq N x).trans (by rw [h])
 simp only [qec,qnk,hm,Option.bind_some,Bool.not_true,cond_false]
 unfold nsum
 by_cases h4:x.1=4
 ·rw [zH h4,beq_iff_eq.2 h4,cond_true]
 rw [zK h4,zW h4,cond_false]
 by_cases h5:x.1=5
 ·rw [zH h5,beq_iff_eq.2 h5,cond_true,w64 (by omega) (by omega)]
 rw [zK h5,zW h5,cond_false]
 by_cases h6:x.1=6
 ·rw [zH h6,beq_iff_eq.2 h6,cond_true]
 ·rw [zK h6,zW h6,cond_false]
theorem qyo{N:Nat}(hN:200000000<=N){l:List Tr}(hl:l.length<=100000000)(s:Tr):∃ b,qcH N (l,s,())=some (b,())/\(b=true↔cov l s):=by
 have hes:(s.1,s.2.1,s.2.2)=s:=rfl
 simp only [qcH,qjM,joinD,loopE]
 by_cases hc:cov l s
 ·refine⟨true,?_,by simp [hc]⟩
  obtain⟨r,hr,hrs⟩:=hc
  obtain⟨i,hi,rfl⟩:=mem_nth (z:=z3) hr
  refine qvb (n:=l.length) (fun i=>leqS (nth z3 l i) s=true) (fun i hi hb kn=>?_) (fun i hi hb kn=>?_) (by omega) ⟨i,hi,hrs⟩
  ·simp only [qdC,lt_d hi,ge0_d,Bool.and_self,cond_true,Int.toNat_natCast,nth3,hes,qqM hN,Option.bind_some,hb]
  ·simp only [qdC,lt_d hi,ge0_d,Bool.and_self,cond_true,Int.toNat_natCast,nth3,hes,qqM hN,Option.bind_some,zBS _▸hb,cond_false,qU,ix1 hi (show l.length<=1000000000 by omega)]
 ·refine⟨false,?_,by simp [hc]⟩
  refine qtg (n:=l.length) (fun i hi kn=>?_) (fun kn=>?_) (by omega)
  ·have hb:leqS (nth z3 l i) s=false:=by
    cases e:leqS (nth z3 l i) s with
    | false=>rfl
    | true=>exact absurd ⟨_,qbI hi,e⟩ hc
   simp only [qdC,lt_d hi,ge0_d,Bool.and_self,cond_true,Int.toNat_natCast,nth3,hes,qqM hN,Option.bind_some,hb,cond_false,qU,ix1 hi (show l.length<=1000000000 by omega)]
  ·simp only [qdC,qbr,cond_false,qjN]
section
variable {N : Nat} {ns : List Nd} {es : List Ed}
abbrev KO:Type:=(Int×Nat×(List Nd)×(List Ed)×Int×Int×(List Nd)×(List Ed)×Nat)×((List (List Tr))×(List Item))->Option qaa
theorem qxX(hN:500000000<=N)(h:GrOk ns es)(kn:KO){a b:Int}{s:Tr}(fit:Fit ns a b s)(hs:Small s)(P:List (List Tr)){J:List Item}(hJ:J.length<=500000000)(n:Int) :
  loopE (fun (_c:Int×Nat×(List Ed)×Int×(List Nd)×(List Ed)×Int×Int×(List (List Tr))×(List Nd)×(List Ed)×Nat×Int×Int×Int×Int×List Int) (_s:Int×(List Item)) _kn=>qfX N kn _c.1 _c.2.1 _c.2.2.1 _c.2.2.2.1 _c.2.2.2.2.1 _c.2.2.2.2.2.1 _c.2.2.2.2.2.2.1 _c.2.2.2.2.2.2.2.1 _c.2.2.2.2.2.2.2.2.1 _c.2.2.2.2.2.2.2.2.2.1 _c.2.2.2.2.2.2.2.2.2.2.1 _c.2.2.2.2.2.2.2.2.2.2.2.1 _c.2.2.2.2.2.2.2.2.2.2.2.2.1 _c.2.2.2.2.2.2.2.2.2.2.2.2.2.1 _c.2.2.2.2.2.2.2.2.2.2.2.2.2.2.1 _c.2.2.2.2.2.2.2.2.2.2.2.2.2.2.2.1 _c.2.2.2.2.2.2.2.2.2.2.2.2.2.2.2.2 _s.1 _s.2 _kn) N
   (n,0,es,(es.length:Int),ns,es,(0:Int),(0:Int),P,ns,es,0,a,b,s.1,s.2.1,s.2.2) ((0:Int),J)
   = kn ((n,0,ns,es,(0:Int),(0:Int),ns,es,0),(P,J++outs ns es (a,b,s))):=by
 have he20:=h.e20
 have b0:=fit.b0
 have bn:=fit.bn
 have hes:(s.1,s.2.1,s.2.2)=s:=rfl
 simp only [loopE]
 obtain⟨st,hst⟩:∃ st:Nat->Int×List Item,st=fun i:Nat=>((i:Int),J++outs ns (es.take i) (a,b,s)):=⟨_,rfl⟩
 have e00:((0:Int),J)=st 0:=by rw [hst];simp [outs]
 rw [e00]
 refine qcA es.length st (fun i hi k=>?_) (fun k=>?_) (by omega) <;> subst hst <;> clear e00 <;> dsimp only
 ·have hw:IntKind.i64.wrap ((i:Int)+1)=((i+1:Nat):Int):=w64 (by omega) (by omega)
  have hlen:(J++outs ns (es.take i) (a,b,s)).length<=500000020:=by
   have:=zAd (fun e:Ed=>e.1==b) (es.take i)
   simp only [outs,zS,zm]
   rw [zq] at this
   omega
  have htk:outs ns (es.take (i+1)) (a,b,s)=outs ns (es.take i) (a,b,s)++if (nth Gh.z3 es i).1=b then [(a,(nth Gh.z3 es i).2.1,T s (qn ns b))] else []:=by
   unfold outs
   rw [zAD hi,zAo,zAk,qcU hi]
   by_cases e:(es[i]).1=b
   ·rw [zH e,zCE (by simpa using e)];rfl
   ·rw [zK e,zCF (by simpa using e)];rfl
  rw [htk]
  obtain⟨⟨e1,e2,e3⟩,ha⟩:∃ e:Ed,nth Gh.z3 es i=e:=⟨_,rfl⟩
  simp only [qfX,lt_d hi,ge0_d,Bool.and_self,cond_true,Int.toNat_natCast,ha,qU,hw]
  by_cases e:e1=b
  ·subst e
   rw [bne_self_eq_false,cond_false,zH rfl,qA b0,qA bn,Bool.and_self,cond_true]
   have hsum:=qAi N (qqa h b0 bn)
   simp only [Gh.nd_eta,hsum,Option.bind_some]
   have hth:=qzP (N:=N) (by omega) s (qn ns e1)
   rw [zH (qkj h fit hs)] at hth
   have hq3:((nsum (nth Gh.z5 ns e1.toNat)).1,(nsum (nth Gh.z5 ns e1.toNat)).2.1,(nsum (nth Gh.z5 ns e1.toNat)).2.2)=qn ns e1:=rfl
   rw [hq3,hes,hth]
   simp only [Option.bind_some,zAX,cond_true,zg]
   rw [qA (show ((J++outs ns (es.take i) (a,e1,s)).length+1)*56<=140737488355328 by omega),cond_true,zU]
   rfl
  ·rw [bne_iff_ne.2 e,cond_true,zK e,List.append_nil]
 ·simp only [qfX,qbr,cond_false,zAW]
theorem qzi(hN:500000000<=N)(h:GrOk ns es)(k:(Int×Int×(List (List Tr))×(List Nd)×(List Ed)×Nat)->Option qaa)
  (g:(List (List Tr))×(List Item)->((List (List Tr))×(List Item)->Option qaa)->Option qaa) (hg:∀ s kn,g s kn=qfW N k (ns.length:Int) ns es 0 0 ns es 0 s.1 s.2 (backE ((ns.length:Int),0,ns,es,0,0,ns,es,0) kn)):∀ (fuel:Nat) (P:List (List Tr)) (J I:List Item),Inv ns es P J I ->
  (22277521 - I.length)*21+J.length<fuel->(22277521 - I.length)*21+J.length<=467828000 ->
  ∃ P',ReachOk ns es P'/\loopD g fuel (P,J)=k (0,0,P',ns,es,0):=by
 intro fuel
 induction fuel with
 | zero=>intro P J I _ hf;omega
 | succ fuel ih=>
  intro P J I v hf hM
  rw [Gh.loopD_s,hg]
  have hn:=h.n12
  cases J with
  | nil=>
   refine⟨P,v.done h,?_⟩
   simp only [qfW]
   rw [show decide ((([]:List Item).length:Int)>0)=false from rfl,cond_false]
  | cons x J=>
   have jf:=v.jobs x (zAO ..)
   have sl:=v.sl h jf
   have hIl:=v.hist.len h.n12
   have hrl:(rw_ ns.length P x.1 x.2.1).length<=22277520:=zr (v.len _) hIl
   obtain⟨b,hkb,hbc⟩:=qyo (N:=N) (by omega) (show (rw_ ns.length P x.1 x.2.1).length<=100000000 by omega) x.2.2
   have hskip:b=true->Inv ns es P J I:=fun hb=>v.skip h (hbc.1 hb)
   obtain⟨f,hf1,-,hf2,hf3⟩:=qxI (N:=N) (by omega) sl
   have hadd:=fun hb:b=false=>v.add (x:=x) h (fun hc=>by have:=hbc.2 hc;rw [hb] at this;cases this) hf2 hf3
   have a0:=jf.a0
   have an:=jf.an
   have b0:=jf.fit.b0
   have bn:=jf.fit.bn
   have hsm:=v.hist.small h.n12 jf.pred
   have fit:=jf.fit
   have pn:=v.pn
   clear v jf
   obtain⟨a,c,s⟩:=x
   dsimp only at *
   rw [List.length_cons] at hf hM
   have hm0:0<=a*(ns.length:Int):=Int.mul_nonneg a0 (by omega)
   have hm1:a*(ns.length:Int)<=12*12:=Int.mul_le_mul (by omega) (by omega) (by omega) (by omega)
   have hw:IntKind.i64.wrap (IntKind.i64.wrap (a*(ns.length:Int))+c)=a*(ns.length:Int)+c:=by
    rw [w64 (show -9223372036854775808<=a*(ns.length:Int) by omega) (by omega),w64 (by omega) (by omega)]
   have hix:(a*(ns.length:Int)+c).toNat=a.toNat*ns.length+c.toNat:=by
    have e:a*(ns.length:Int)+c=((a.toNat*ns.length+c.toNat:Nat):Int):=by
     rw [Int.natCast_add,Int.natCast_mul,show ((a.toNat:Nat):Int)=a by omega,show ((c.toNat:Nat):Int)=c by omega]
    rw [e];rfl
   have hlt:a.toNat*ns.length+c.toNat<P.length:=by rw [pn];exact ix_lt (by omega) (by omega)
   have hz:nth ((0:Int),((0:Int),((0:Int),((0:Int),([]:List Int))))) ((a,c,s) :: J) 0=(a,c,s):=rfl
   have hset:P.set (a.toNat*ns.length+c.toNat) (nth [] P (a.toNat*ns.length+c.toNat))=P:=by rw [qcU hlt];exact List.set_getElem_self hlt
   have hes:(s.1,s.2.1,s.2.2)=s:=rfl
   have g1:decide ((((a,c,s) :: J).length:Int)>0)=true:=qA (by simp only [List.length_cons];omega)
   have g2:decide ((0:Int)<(((a,c,s) :: J).length:Int))=true:=qA (by simp only [List.length_cons];omega)
   have g3:decide ((1:Int)<=(((a,c,s) :: J).length:Int))=true:=qA (by simp only [List.length_cons];omega)
   have g4:decide ((0:Int)<=a*(ns.length:Int)+c)=true:=qA (by omega)
   have g5:decide (a*(ns.length:Int)+c<(P.length:Int))=true:=qA (by omega)
   have g6:((a,c,s) :: J).drop (1:Int).toNat=J:=rfl
   simp only [qfW,g1,g2,g3,show decide ((0:Int)<=0)=true from rfl,show decide ((0:Int)<=1)=true from rfl,Bool.and_self,cond_true,zCC,hz,hw,g4,g5,hix,g6,hes,hset,hkb,Option.bind_some,qU]
   cases b with
   | true=>
    rw [cond_true]
    exact ih P J I (hskip rfl) (by omega) (by omega)
   | false=>
    have hv:=hadd rfl
    rw [cond_false,qA (show ((nth [] P (a.toNat*ns.length+c.toNat)).length + [s].length)*40<=140737488355328 by have:(nth [] P (a.toNat*ns.length+c.toNat)).length<=22277520:=hrl;simp only [zg];omega)]
    simp only [show Nat.ble 1 40=true from rfl,Bool.and_self,cond_true,hf1,Option.bind_some,zAX]
    rw [qxX hN h _ fit hsm _ (by omega),qU]
    have hl:=hv.hist.len h.n12
    rw [zS,zg] at hl
    have ho:(outs ns es (a,c,s)).length<=20:=by
     have:=zAd (fun e:Ed=>e.1==c) es
     have:=h.e20
     simp only [outs,zm];omega
    refine ih _ _ _ hv ?_ ?_ <;> rw [zS,zS,zg] <;> omega
theorem Of_eq(hN:500000000<=N)(ns:List Nd)(es:List Ed) :
  (∃ c p:Int,c≠0/\qcx N (ns,es)=some (Sum.inl (c,p))/\¬ GrOk ns es) \/
  (GrOk ns es/\∃ P,ReachOk ns es P/\qcx N (ns,es)=some (Sum.inr (((0:Int),(0:Int)),ns,es,P))):=by
 obtain⟨p,hp⟩:=Gh.Check_eq (N:=N) (by omega) ns es
 simp only [qcx,qll,hp,Option.bind_some]
 by_cases hc:codeG ns es=0
 case neg=>
  exact .inl ⟨codeG ns es,p,hc,by rw [bne_iff_ne.2 hc,cond_true],fun h=>hc (qld.2 h)⟩
 have h:=qld.1 hc
 refine .inr ⟨h,?_⟩
 have hn:=h.n12
 have hm1:ns.length*ns.length<=12*12:=Nat.mul_le_mul hn hn
 have hmc:(ns.length:Int)*(ns.length:Int)=((ns.length*ns.length:Nat):Int):=by rw [Int.natCast_mul]
 have hw:IntKind.i64.wrap ((ns.length:Int)*(ns.length:Int))=((ns.length*ns.length:Nat):Int):=by rw [hmc];exact w64 (by omega) (by omega)
 rw [hc,bne_self_eq_false,cond_false,hw,qA (show (0:Int)<=((ns.length*ns.length:Nat):Int) by omega),qA (zAR _),qA (show ((ns.length*ns.length:Nat):Int)*24<=281474976710656 by omega),Bool.and_self,Bool.and_self,cond_true,Int.toNat_natCast]
 obtain⟨P,hP,e⟩:=qzi hN h (fun _s:Int×Int×(List (List Tr))×(List Nd)×(List Ed)×Nat=>qln N _s.2.2.1 _s.2.2.2.1 _s.2.2.2.2.1) _ (fun _ _=>rfl) N _ _ [] (Inv.start h) (by simp;omega) (by simp;omega)
 refine⟨P,hP,?_⟩
 simp only [joinD,loopE]
 obtain⟨st,hst⟩:∃ st:Nat->Int×List Item,st=fun i:Nat=>((i:Int),(List.range i).map fun a:Nat=>((a:Int),(a:Int),idT ns a)):=⟨_,rfl⟩
 have e00:((0:Int),([]:List Item))=st 0:=by rw [hst];rfl
 refine Eq.trans (congrArg _ e00) ?_
 refine qcA ns.length st (fun i hi k=>?_) (fun k=>?_) (by omega) <;> subst hst <;> clear e00 <;> dsimp only
 ·have hw:IntKind.i64.wrap ((i:Int)+1)=((i+1:Nat):Int):=w64 (by omega) (by omega)
  simp only [qhQ,lt_d hi,ge0_d,Bool.and_self,cond_true,Int.toNat_natCast,zm,zAT,zg,hw,qU]
  rw [qA (show (i+1)*56<=140737488355328 by omega),cond_true,zBx,zAk]
  rfl
 ·simp only [qhQ,qbr,cond_false,qlm,joinD,loopE]
  exact e
end
end Go.Proofs.YtgnnhemoocfclaaDoor.Rea
