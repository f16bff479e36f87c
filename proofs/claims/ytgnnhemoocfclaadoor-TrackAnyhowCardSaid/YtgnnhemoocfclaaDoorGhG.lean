import Derived.Test.YtgnnhemoocfclaaDoorGhR
namespace Go.Proofs.YtgnnhemoocfclaaDoor.Gh
open Go.Abs Go.Gr
open Classical in
noncomputable def codeG(ns:List Nd)(es:List Ed):Int:=
 if 12<ns.length\/20<es.length then 1 else if ∃ x∈ns,qaP x=false then 2 else if codeE ns es=0 then (if Ringy ns es then 9 else 0) else codeE ns es
section
variable {N : Nat} {ns : List Nd} {es : List Ed}
theorem qle:codeE ns es=0↔(∀ i,i<es.length->quL ns es i)/\¬ Missing ns es:=by
 unfold codeE
 by_cases h:qic (edgeC ns es) es.length=0
 ·rw [zH h]
  have:=qhl.1 h
  constructor
  ·intro h'
   refine⟨fun i hi=>qla.1 (this i hi),fun hm=>?_⟩
   rw [zH hm] at h';cases h'
  ·intro h';rw [zK h'.2]
 ·rw [zK h]
  exact⟨fun h'=>absurd h' h,fun h'=>absurd (qhl.2 fun i hi=>qla.2 (h'.1 i hi)) h⟩
theorem qrx(hed:∀ i,i<es.length->quL ns es i):¬ Missing ns es↔∀ i,i<ns.length->prt (nth z5 ns i)<=cnt es i:=by
 have hc:∀ i,cnt es i=(es.filter fun e=>decide (e.2.1=(i:Int))).length:=fun i=>List.countP_eq_length_filter
 constructor
 ·intro h i hi
  have hn:((List.range (prt (nth z5 ns i)).toNat).map fun (p:Nat)=>(p:Int)).Nodup:=
   zAt.2 (List.nodup_range.imp fun {a b} h e=>h (by omega))
  have:=hn.length_le_of_subset (l₂:=(es.filter fun e=>decide (e.2.1=(i:Int))).map fun e=>e.2.2) fun x hx=>by
   obtain⟨p,hp,rfl⟩:=zt.1 hx
   rw [zk] at hp
   by_cases q:∃ e∈es,e.2.1=(i:Int)/\e.2.2=(p:Int)
   ·obtain⟨e,he,e1,e2⟩:=q
    exact zt.2 ⟨e,zAA.2 ⟨he,decide_eq_true e1⟩,e2⟩
   ·exact absurd ⟨i,p,hi,by omega,fun e he hh=>q ⟨e,he,hh⟩⟩ h
  rw [zm,zm,zAT,<- hc] at this
  omega
 ·rintro h ⟨i,p,hi,hp,hno⟩
  have hpw:es.Pairwise fun e e'=>¬ (e.2.1=e'.2.1/\e.2.2=e'.2.2):=zAV.2 fun a b ha hb hab hh=>by
   have:=(hed b hb).own a hab
   rw [qcU ha,qcU hb] at this
   exact this hh
  have hn:((es.filter fun e=>decide (e.2.1=(i:Int))).map fun e=>e.2.2).Nodup:=
   zAt.2 ((hpw.filter _).imp_of_mem fun {a b} ha hb hh e=>hh ⟨by
    have h1:=zl (zAA.1 ha).2
    have h2:=zl (zAA.1 hb).2
    omega,e⟩)
  have h1:=hn.length_le_of_subset (l₂:=((List.range (prt (nth z5 ns i)).toNat).filter fun q=>decide (q≠p)).map fun (q:Nat)=>(q:Int)) fun x hx=>by
   obtain⟨e,he,rfl⟩:=zt.1 hx
   obtain⟨hem,hei⟩:=zAA.1 he
   have hei:=zl hei
   obtain⟨j,hj,rfl⟩:=mem_nth (z:=z3) hem
   have hx:=hed j hj
   have p0:0<=(nth z3 es j).2.2:=hx.p0
   have pn:(nth z3 es j).2.2<prt (nth z5 ns (nth z3 es j).2.1.toNat):=hx.pn
   rw [hei,Int.toNat_natCast] at pn
   refine zt.2 ⟨(nth z3 es j).2.2.toNat,zAA.2 ⟨zk.2 (by omega),decide_eq_true fun h'=>hno _ hem ⟨hei,by omega⟩⟩,by omega⟩
  rw [zm,zm,<- hc] at h1
  have h2:=Go.Abs.filter_lt (p:=fun q=>decide (q≠p)) (q:=fun _=>true) (List.range (prt (nth z5 ns i)).toNat) (fun _ _ _=>rfl) ⟨p,zk.2 (by omega),rfl,by simp⟩
  rw [zBA.2 (fun _ _=>rfl),zAT] at h2
  have:=h i hi
  omega
theorem qrr(hok:∀ x∈ns,qaP x=true):¬ Ringy ns es↔∀ i j,i<ns.length->j<ns.length->¬ (Pk (EdG ns es (qbJ ns j)) ns.length i j/\Pk (EdG ns es (qbJ ns j)) ns.length j i):=by
 constructor
 ·rintro h i j hi hj ⟨p1,p2⟩
  have:=qdp.1 (hok _ (qbI (z:=z5) hj))
  have hd:(((qbJ ns j).toNat:Nat):Int)=qbJ ns j:=by unfold qbJ;omega
  refine h ⟨(qbJ ns j).toNat,?_,?_,j,i,hj,hi,hd.symm,by rw [hd];exact p2,by rw [hd];exact p1⟩
  ·have:1<=qbJ ns j:=this.1
   omega
  ·have:qbJ ns j<=4:=this.2.1
   omega
 ·rintro h ⟨f,f1,f4,a,j,hr⟩
  exact h j a hr.jn hr.an ⟨by rw [hr.deep];exact hr.back,by rw [hr.deep];exact hr.go⟩
theorem qld:codeG ns es=0↔GrOk ns es:=by
 unfold codeG
 by_cases h1:12<ns.length\/20<es.length
 ·rw [zH h1]
  exact⟨(fun h=>by cases h),fun h=>by have:=h.n12;have:=h.e20;omega⟩
 rw [zK h1]
 by_cases h2:∃ x∈ns,qaP x=false
 ·rw [zH h2]
  obtain⟨x,hx,hh⟩:=h2
  exact⟨(fun h=>by cases h),fun h=>by rw [h.nodes x hx] at hh;cases hh⟩
 rw [zK h2]
 have hok:∀ x∈ns,qaP x=true:=fun x hx=>by
  cases q:qaP x with
  | true=>rfl
  | false=>exact absurd ⟨x,hx,q⟩ h2
 by_cases h3:codeE ns es=0
 ·rw [zH h3]
  obtain⟨hed,hmi⟩:=qle.1 h3
  by_cases h4:Ringy ns es
  ·rw [zH h4]
   exact⟨(fun h=>by cases h),fun h=>absurd h4 ((qrr hok).2 h.rings)⟩
  ·rw [zK h4]
   exact⟨fun _=>⟨by omega,by omega,hok,hed,(qrx hed).1 hmi,(qrr hok).1 h4⟩,fun _=>rfl⟩
 ·rw [zK h3]
  exact⟨fun h=>absurd h h3,fun h=>absurd (qle.2 ⟨h.edges,(qrx h.edges).2 h.ports⟩) h3⟩
theorem c1_eq(N:Nat)(x:Nd):qbw N (x,())=some (!qaP x,()):=by
 have h:=may_eq N x
 simp only [qbw,qhy,nd_eta]
 simp only [h,Option.bind_some]
theorem qyq(hN:1000<=N)(hn:ns.length<=12):∃ i:Int,qp N (ns,(),())=some (i,())/\(0<=i↔∃ x∈ns,qaP x=false):=by
 simp only [qp,qal,joinD,loopE]
 have hb:∀ (K:Unit->_) (i:Nat),i<ns.length->∀ kn,qJ N K ns (ns.length:Int) (i:Int) (backE (ns,(ns.length:Int)) kn)=if qaP (nth z5 ns i)=false then some ((i:Int),()) else kn ((i:Int)+1):=fun K i hi kn=>by
  simp only [qJ,lt_d hi,ge0_d,Int.toNat_natCast,Bool.and_self,cond_true,nd_eta,c1_eq N (nth ((0:Int),(0:Int),(0:Int),(0:Int),(0:Int)) ns i),Option.bind_some,ix1 hi (show ns.length<=100000 by omega),qU]
  have e:qaP (nth ((0:Int),(0:Int),(0:Int),(0:Int),(0:Int)) ns i)=qaP (nth z5 ns i):=rfl
  rw [e]
  cases qaP (nth z5 ns i) <;> rfl
 by_cases hex:∃ i,i<ns.length/\qaP (nth z5 ns i)=false
 ·obtain⟨i0,⟨a1,a2⟩,a3⟩:=least hex
  refine⟨i0,qcA i0 (fun i=>(i:Int)) (fun i hi kn=>?_) (fun kn=>?_) (by omega),⟨fun _=>⟨_,qbI a1,a2⟩,fun _=>by omega⟩⟩
  ·rw [hb _ i (by omega),zK (fun h=>by have:=a3 i ⟨by omega,h⟩;omega)];rfl
  ·rw [hb _ i0 a1,zH a2]
 ·refine⟨-1,qdX (n:=ns.length) (by omega) (fun i hi kn=>?_) (fun kn=>?_) (by omega),⟨fun h=>by omega,fun ⟨l,hl,h⟩=>?_⟩⟩
  ·rw [hb _ i hi,zK (fun h=>hex ⟨i,hi,h⟩)]
  ·simp only [qJ,qbr,cond_false,qam]
  ·obtain⟨i,hi,rfl⟩:=mem_nth (z:=z5) hl
   exact absurd ⟨i,hi,h⟩ hex
theorem Check_eq(hN:1000<=N)(ns:List Nd)(es:List Ed):∃ p:Int,qcJ N ((ns,es),())=some ((codeG ns es,p),()):=by
 simp only [qcJ,qkf]
 unfold codeG
 by_cases g1:(ns.length:Int)>12
 ·rw [qA g1,zH (by omega)];exact⟨_,rfl⟩
 rw [qK g1,cond_false]
 by_cases g2:(es.length:Int)>20
 ·rw [qA g2,zH (by omega)];exact⟨_,rfl⟩
 rw [qK g2,cond_false,zK (by omega)]
 have hn:ns.length<=12:=by omega
 have he:es.length<=20:=by omega
 obtain⟨r,r1,r2⟩:=qyq (N:=N) (ns:=ns) hN hn
 simp only [r1,Option.bind_some]
 by_cases g3:r>=0
 ·rw [qA g3,zH (r2.1 g3)];exact⟨_,rfl⟩
 rw [qK g3,cond_false,zK (fun h=>g3 (r2.2 h)),qA (show (0:Int)<=ns.length by omega),qA (show ((ns.length:Int))*4<=281474976710656 by omega),qA (zAR _),Bool.and_self,Bool.and_self,cond_true,Int.toNat_natCast]
 have hok:∀ x∈ns,qaP x=true:=fun x hx=>by
  cases q:qaP x with
  | true=>rfl
  | false=>exact absurd (r2.2 ⟨x,hx,q⟩) g3
 obtain⟨p,to,e1,e2⟩:=qyB (es:=es) hN hn he hok
 simp only [e1,Option.bind_some]
 by_cases g4:codeE ns es=0
 ·rw [zH g4,g4,bne_self_eq_false,cond_false]
  have ht:=e2 g4
  have hv:∀ x∈es,0<=x.1/\x.1<ns.length/\0<=x.2.1/\x.2.1<ns.length:=fun x hx=>by
   obtain⟨i,hi,rfl⟩:=mem_nth (z:=z3) hx
   have:=(qle.1 g4).1 i hi
   exact⟨this.f0,this.fn,this.t0,this.tn⟩
  obtain⟨x,x1,x2⟩:=qxW hN hn hv ht
  simp only [x1,Option.bind_some]
  by_cases g5:x>=0
  ·rw [qA g5,zH (x2.1 g5)];exact⟨_,rfl⟩
  ·rw [qK g5,zK (fun h=>g5 (x2.2 h))];exact⟨_,rfl⟩
 ·rw [zK g4,show (codeE ns es != 0)=true from bne_iff_ne.2 g4]
  exact⟨_,rfl⟩
end
end Go.Proofs.YtgnnhemoocfclaaDoor.Gh
