import Derived.Test.YtgnnhemoocfclaaGreatDoorGhD
import Derived.Test.YtgnnhemoocfclaaGreatDoorGrP
namespace Go.Proofs.YtgnnhemoocfclaaGreatDoor.Gh
open Go.Abs Go.Gr
theorem lt_d{i m:Nat}(h:i<m):decide ((i:Int)<(m:Int))=true:=qi (by omega)
theorem qaE(m:Nat):decide ((m:Int)<(m:Int))=false:=qo (by omega)
theorem ge0_d(i:Nat):decide ((0:Int)<=(i:Int))=true:=qi (by omega)
theorem mem_nth{α:Type}{z a:α}{xs:List α}(h:a∈xs):∃ t,t<xs.length/\nth z xs t=a:=by
 obtain⟨t,ht,e⟩:=zAf h
 exact⟨t,ht,by rw [qcD ht,e]⟩
theorem ix1{n i:Nat}(h:i<n)(hn:n<=100000):IntKind.i64.wrap ((i:Int)+1)=(i:Int)+1:=w64 (by omega) (by omega)
theorem loopD_s{R S:Type}(f:S->(S->Option R)->Option R)(n:Nat)(s:S):loopD f (n+1) s=f s (loopD f n):=rfl
abbrev Tr:=Int×Int×List Int
structure SOk (s:Tr):Prop where
 k1:1<=s.1
 k4:s.1+s.2.2.length<=4
abbrev Nd:=Int×Int×Int×Int×Int
abbrev Ed:=Int×Int×Int
theorem nd_eta(x:Nd):(x.1,x.2.1,x.2.2.1,x.2.2.2.1,x.2.2.2.2)=x:=rfl
def qaz(x:Nd):Bool:=decide (1<=x.2.1/\x.2.1<=4/\1<=x.1/\x.1<=6/\(x.1=1->x.2.1=1)/\(x.1=4->x.2.1≠4)/\(5<=x.1->2<=x.2.1))
theorem qdn{x:Nd}:qaz x=true↔(1<=x.2.1/\x.2.1<=4/\1<=x.1/\x.1<=6/\(x.1=1->x.2.1=1)/\(x.1=4->x.2.1≠4)/\(5<=x.1->2<=x.2.1)):=decide_eq_true_iff
def nsum(x:Nd):Tr:=if x.1=4 then (x.2.1,0,[0]) else if x.1=5 then (x.2.1 - 1,0,[]) else if x.1=6 then (x.2.1,1,[]) else (x.2.1,0,[])
def outOf(x:Nd):Int:=if x.1=4 then x.2.1+1 else if x.1=5 then x.2.1 - 1 else x.2.1
def prt(x:Nd):Int:=if x.1=1 then 0 else if x.1=3 then 2 else 1
theorem qAf(N:Nat)(x:Nd):qdU N (x,())=some (prt x,()):=by
 simp only [qdU,qra,prt]
 by_cases h:x.1=1
 ·rw [zH h,show (x.1==1)=true from beq_iff_eq.2 h];rfl
 ·rw [zJ h,show (x.1==1)=false from zV h]
  by_cases h':x.1=3
  ·rw [zH h',show (x.1==3)=true from beq_iff_eq.2 h'];rfl
  ·rw [zJ h',show (x.1==3)=false from zV h'];rfl
theorem qAZ(N:Nat)(x:Nd):qep N (x,())=some (qaz x,()):=by
 have hx:qaz x=qaz x:=rfl
 obtain⟨k,d,r⟩:=x
 simp only [qep,qnF]
 by_cases h1:d<1
 ·rw [qi h1,cond_true,show qaz (k,d,r)=false from qo (by simp only;omega)]
 by_cases h2:d>4
 ·rw [qo h1,qi h2,cond_false,cond_true,show qaz (k,d,r)=false from qo (by simp only;omega)]
 by_cases h3:k<1
 ·rw [qo h1,qo h2,qi h3,cond_false,cond_false,cond_true,show qaz (k,d,r)=false from qo (by simp only;omega)]
 by_cases h4:k>6
 ·rw [qo h1,qo h2,qo h3,qi h4,cond_false,cond_false,cond_false,cond_true,show qaz (k,d,r)=false from qo (by simp only;omega)]
 rw [qo h1,qo h2,qo h3,qo h4]
 have hk:k=1\/k=2\/k=3\/k=4\/k=5\/k=6:=by omega
 have hd:d=1\/d=2\/d=3\/d=4:=by omega
 rcases hk with rfl | rfl | rfl | rfl | rfl | rfl <;> rcases hd with rfl | rfl | rfl | rfl <;> rfl
theorem may_eq(N:Nat)(x:Nd):qdi N (x,())=some (qaz x,()):=by
 obtain⟨k,d,r⟩:=x
 simp only [qdi,qrL]
 rw [show IntKind.i64.wrap ((4:Int) - 1)=3 from rfl,show IntKind.i64.wrap ((1:Int)+1)=2 from rfl]
 by_cases h1:1<=k/\k<=6
 ·have hk:k=1\/k=2\/k=3\/k=4\/k=5\/k=6:=by omega
  by_cases h2:1<=d/\d<=4
  ·have hd:d=1\/d=2\/d=3\/d=4:=by omega
   rcases hk with rfl | rfl | rfl | rfl | rfl | rfl <;> rcases hd with rfl | rfl | rfl | rfl <;> rfl
  ·rw [show qaz (k,d,r)=false from qo (by simp only;omega)]
   by_cases h3:d<1
   ·have e1:decide (d>=1)=false:=qo (by omega)
    have e2:decide (d>=2)=false:=qo (by omega)
    rcases hk with rfl | rfl | rfl | rfl | rfl | rfl <;> simp [e1,e2]
   ·have e1:decide (d<=1)=false:=qo (by omega)
    have e2:decide (d<=3)=false:=qo (by omega)
    have e3:decide (d<=4)=false:=qo (by omega)
    have e4:decide (d>=1)=true:=qi (by omega)
    have e5:decide (d>=2)=true:=qi (by omega)
    rcases hk with rfl | rfl | rfl | rfl | rfl | rfl <;> simp [e1,e2,e3,e4,e5] <;> omega
 ·rw [show qaz (k,d,r)=false from qo (by simp only;omega),show (k==1)=false from zV (by omega),show (k==2)=false from zV (by omega),show (k==3)=false from zV (by omega),
   show (k==4)=false from zV (by omega),show (k==5)=false from zV (by omega),show (k==6)=false from zV (by omega)];rfl
theorem qAY(N:Nat){x:Nd}(h:qaz x=true):qeo N (x,())=some (nsum x,()):=by
 have:=qdn.1 h
 simp only [qeo,qnE]
 unfold nsum
 by_cases h4:x.1=4
 ·rw [zH h4,show (x.1==4)=true from beq_iff_eq.2 h4];rfl
 rw [zJ h4,show (x.1==4)=false from zV h4]
 by_cases h5:x.1=5
 ·rw [zH h5,show (x.1==5)=true from beq_iff_eq.2 h5,w64 (by omega) (by omega)];rfl
 rw [zJ h5,show (x.1==5)=false from zV h5]
 by_cases h6:x.1=6
 ·rw [zH h6,show (x.1==6)=true from beq_iff_eq.2 h6];rfl
 ·rw [zJ h6,show (x.1==6)=false from zV h6];rfl
theorem nsum_out{x:Nd}(h:qaz x=true):SOk (nsum x)/\(nsum x).1+(nsum x).2.2.length=outOf x:=by
 have:=qdn.1 h
 unfold nsum outOf
 by_cases h4:x.1=4
 ·rw [zH h4,zH h4];exact⟨⟨by simp;omega,by simp;omega⟩,rfl⟩
 rw [zJ h4,zJ h4]
 by_cases h5:x.1=5
 ·rw [zH h5,zH h5];exact⟨⟨by simp;omega,by simp;omega⟩,by simp⟩
 rw [zJ h5,zJ h5]
 by_cases h6:x.1=6
 ·rw [zH h6];exact⟨⟨by simp;omega,by simp;omega⟩,by simp⟩
 ·rw [zJ h6];exact⟨⟨by simp;omega,by simp;omega⟩,by simp⟩
theorem ROutE{N:Nat}{s:Tr}(h:SOk s):qcw N (s,())=some (s.1+s.2.2.length,()):=by
 have:=h.k1
 have:=h.k4
 simp only [qcw,qkA]
 rw [w64 (by omega) (by omega)]
structure EdgeX (ns:List Nd) (es:List Ed) (i:Nat) (x:Ed):Prop where
 f0:0<=x.1
 fn:x.1<ns.length
 t0:0<=x.2.1
 tn:x.2.1<ns.length
 p0:0<=x.2.2
 pn:x.2.2<prt (nth (0,0,0,0,0) ns x.2.1.toNat)
 own:∀ j,j<i->¬ ((nth (0,0,0) es j).2.1=x.2.1/\(nth (0,0,0) es j).2.2=x.2.2)
 deep:outOf (nth (0,0,0,0,0) ns x.1.toNat)=(nth (0,0,0,0,0) ns x.2.1.toNat).2.1
abbrev qst(ns:List Nd)(es:List Ed)(i:Nat):Prop:=EdgeX ns es i (nth (0,0,0) es i)
theorem qFD{N:Nat}(hN:1000<=N){ns:List Nd}{es:List Ed}{i:Nat}(hi:i<es.length)(he:es.length<=20)(hn:ns.length<=12)(hok:∀ x∈ns,qaz x=true) :
  ∃ e,qgm N ((ns,es),(i:Int),())=some (e,())/\(e=0↔qst ns es i):=by
 simp only [qgm,qtD,lt_d hi,ge0_d,Bool.and_self,cond_true,Int.toNat_natCast,nd_eta]
 show ∃ e,_/\(e=0↔EdgeX ns es i (nth (0,0,0) es i))
 by_cases h1:(nth ((0:Int),(0:Int),(0:Int)) es i).1<0
 ·exact⟨8,by rw [qi h1];rfl,by simp;intro h;have:=h.f0;omega⟩
 by_cases h2:(nth ((0:Int),(0:Int),(0:Int)) es i).1>=ns.length
 ·exact⟨8,by rw [qo h1,qi h2];rfl,by simp;intro h;have:=h.fn;omega⟩
 by_cases h3:(nth ((0:Int),(0:Int),(0:Int)) es i).2.1<0
 ·exact⟨8,by rw [qo h1,qo h2,qi h3];rfl,by simp;intro h;have:=h.t0;omega⟩
 by_cases h4:(nth ((0:Int),(0:Int),(0:Int)) es i).2.1>=ns.length
 ·exact⟨8,by rw [qo h1,qo h2,qo h3,qi h4];rfl,by simp;intro h;have:=h.tn;omega⟩
 by_cases h5:(nth ((0:Int),(0:Int),(0:Int)) es i).2.2<0
 ·exact⟨8,by rw [qo h1,qo h2,qo h3,qo h4,qi h5];rfl,by simp;intro h;have:=h.p0;omega⟩
 rw [qo h1,qo h2,qo h3,qo h4,qo h5,cond_false,cond_false,cond_false,cond_false,cond_false,qi (show (0:Int)<=(nth ((0:Int),(0:Int),(0:Int)) es i).2.1 by omega),qi (show (nth ((0:Int),(0:Int),(0:Int)) es i).2.1<ns.length by omega)]
 simp only [Bool.and_self,cond_true,qAf N (nth (0,0,0,0,0) ns (nth ((0:Int),(0:Int),(0:Int)) es i).2.1.toNat),Option.bind_some]
 by_cases h6:(nth ((0:Int),(0:Int),(0:Int)) es i).2.2>=prt (nth (0,0,0,0,0) ns (nth ((0:Int),(0:Int),(0:Int)) es i).2.1.toNat)
 ·exact⟨8,by rw [qi h6];rfl,by simp;intro h;have:=h.pn;omega⟩
 rw [qo h6,cond_false]
 simp only [joinD,loopE]
 have hbody:∀ (k:_->Option qfm) (j:Nat),j<i->∀ kn,qlO N k (i:Int) ns es (nth ((0:Int),(0:Int),(0:Int)) es i).1 (nth ((0:Int),(0:Int),(0:Int)) es i).2.1 (nth ((0:Int),(0:Int),(0:Int)) es i).2.2 (j:Int) (backE ((i:Int),ns,es,(nth ((0:Int),(0:Int),(0:Int)) es i).1,(nth ((0:Int),(0:Int),(0:Int)) es i).2.1,(nth ((0:Int),(0:Int),(0:Int)) es i).2.2) kn) =
   if (nth (0,0,0) es j).2.1=(nth ((0:Int),(0:Int),(0:Int)) es i).2.1/\(nth (0,0,0) es j).2.2=(nth ((0:Int),(0:Int),(0:Int)) es i).2.2 then some (8,()) else kn ((j:Int)+1):=fun k j hj kn=>by
  simp only [qlO,lt_d hj,lt_d (show j<es.length by omega),ge0_d,Bool.and_self,cond_true,Int.toNat_natCast,qB,ix1 hj (by omega)]
  by_cases q:(nth ((0:Int),(0:Int),(0:Int)) es j).2.1=(nth ((0:Int),(0:Int),(0:Int)) es i).2.1
  ·rw [show ((nth ((0:Int),(0:Int),(0:Int)) es j).2.1==(nth ((0:Int),(0:Int),(0:Int)) es i).2.1)=true from beq_iff_eq.2 q,cond_true]
   by_cases q':(nth ((0:Int),(0:Int),(0:Int)) es j).2.2=(nth ((0:Int),(0:Int),(0:Int)) es i).2.2
   ·rw [show ((nth ((0:Int),(0:Int),(0:Int)) es j).2.2==(nth ((0:Int),(0:Int),(0:Int)) es i).2.2)=true from beq_iff_eq.2 q',cond_true,zH ⟨q,q'⟩]
   ·rw [show ((nth ((0:Int),(0:Int),(0:Int)) es j).2.2==(nth ((0:Int),(0:Int),(0:Int)) es i).2.2)=false from zV q',cond_false,zJ (fun h=>q' h.2)]
  ·rw [show ((nth ((0:Int),(0:Int),(0:Int)) es j).2.1==(nth ((0:Int),(0:Int),(0:Int)) es i).2.1)=false from zV q,cond_false,zJ (fun h=>q h.1)]
 by_cases h7:∃ j,j<i/\(nth ((0:Int),(0:Int),(0:Int)) es j).2.1=(nth ((0:Int),(0:Int),(0:Int)) es i).2.1/\(nth ((0:Int),(0:Int),(0:Int)) es j).2.2=(nth ((0:Int),(0:Int),(0:Int)) es i).2.2
 ·refine⟨8,qhY (n:=i) (by omega) (fun j=>(nth ((0:Int),(0:Int),(0:Int)) es j).2.1=(nth ((0:Int),(0:Int),(0:Int)) es i).2.1/\(nth ((0:Int),(0:Int),(0:Int)) es j).2.2=(nth ((0:Int),(0:Int),(0:Int)) es i).2.2) (fun j hj hb kn=>by rw [hbody _ j hj,zH hb]) (fun j hj hb kn=>by rw [hbody _ j hj,zJ hb]) (by omega) h7,?_⟩
  simp
  intro h
  obtain⟨j,hj,hb⟩:=h7
  exact h.own j hj hb
 have h7':∀ j,j<i->¬ ((nth ((0:Int),(0:Int),(0:Int)) es j).2.1=(nth ((0:Int),(0:Int),(0:Int)) es i).2.1/\(nth ((0:Int),(0:Int),(0:Int)) es j).2.2=(nth ((0:Int),(0:Int),(0:Int)) es i).2.2):=fun j hj hb=>h7 ⟨j,hj,hb⟩
 have hf:qaz (nth (0,0,0,0,0) ns (nth ((0:Int),(0:Int),(0:Int)) es i).1.toNat)=true:=hok _ (qbt (by omega))
 obtain⟨o1,o2⟩:=nsum_out hf
 refine⟨if outOf (nth (0,0,0,0,0) ns (nth ((0:Int),(0:Int),(0:Int)) es i).1.toNat)=(nth (0,0,0,0,0) ns (nth ((0:Int),(0:Int),(0:Int)) es i).2.1.toNat).2.1 then 0 else 7,qce (n:=i) (by omega) (fun j hj kn=>by rw [hbody _ j hj,zJ (h7' j hj)]) (fun kn=>?_) (by omega),?_⟩
 ·simp only [qlO,qaE,cond_false,qtE,nd_eta]
  rw [qi (show (0:Int)<=(nth ((0:Int),(0:Int),(0:Int)) es i).1 by omega),qi (show (nth ((0:Int),(0:Int),(0:Int)) es i).1<ns.length by omega),qi (show (0:Int)<=(nth ((0:Int),(0:Int),(0:Int)) es i).2.1 by omega),qi (show (nth ((0:Int),(0:Int),(0:Int)) es i).2.1<ns.length by omega)]
  simp only [Bool.and_self,cond_true,qAY N hf,Option.bind_some,show ∀ y:Tr,(y.1,y.2.1,y.2.2)=y from fun _=>rfl,ROutE o1,o2]
  by_cases q:outOf (nth (0,0,0,0,0) ns (nth ((0:Int),(0:Int),(0:Int)) es i).1.toNat)=(nth (0,0,0,0,0) ns (nth ((0:Int),(0:Int),(0:Int)) es i).2.1.toNat).2.1
  ·rw [zH q,q,bne_self_eq_false];rfl
  ·rw [zJ q,show (outOf (nth (0,0,0,0,0) ns (nth ((0:Int),(0:Int),(0:Int)) es i).1.toNat) != (nth (0,0,0,0,0) ns (nth ((0:Int),(0:Int),(0:Int)) es i).2.1.toNat).2.1)=true from bne_iff_ne.2 q];rfl
 ·constructor
  ·intro h
   have hq:outOf (nth (0,0,0,0,0) ns (nth ((0:Int),(0:Int),(0:Int)) es i).1.toNat)=(nth (0,0,0,0,0) ns (nth ((0:Int),(0:Int),(0:Int)) es i).2.1.toNat).2.1:=by
    by_cases q:outOf (nth (0,0,0,0,0) ns (nth ((0:Int),(0:Int),(0:Int)) es i).1.toNat)=(nth (0,0,0,0,0) ns (nth ((0:Int),(0:Int),(0:Int)) es i).2.1.toNat).2.1
    ·exact q
    ·rw [zJ q] at h;cases h
   exact⟨by omega,by omega,by omega,by omega,by omega,by omega,h7',hq⟩
  ·intro h
   have:=h.deep
   rw [zH this]
end Go.Proofs.YtgnnhemoocfclaaGreatDoor.Gh
