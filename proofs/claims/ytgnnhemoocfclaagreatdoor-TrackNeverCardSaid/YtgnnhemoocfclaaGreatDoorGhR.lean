import Derived.Test.YtgnnhemoocfclaaGreatDoorGhB
namespace Go.Proofs.YtgnnhemoocfclaaGreatDoor.Gh
open Go.Abs Go.Gr
section
variable {N : Nat} {ns : List Nd} {es : List Ed} {to : List Int}
structure RingAt (ns:List Nd) (es:List Ed) (f:Int) (a j:Nat):Prop where
 an:a<ns.length
 jn:j<ns.length
 deep:qcR ns a=f
 go:Pk (EdG ns es f) ns.length a j
 back:Pk (EdG ns es f) ns.length j a
def Ringy(ns:List Nd)(es:List Ed):Prop:=∃ f:Nat,1<=f/\f<=4/\∃ a j,RingAt ns es (f:Int) a j
theorem EdG.first{f:Int}{a b:Nat}(h:Pk (EdG ns es f) ns.length a b):inB f (nth z5 ns a)=true:=by
 cases h with
 | one h=>obtain⟨e,-,-,-,h,-⟩:=h;exact h
 | cons h _ _=>obtain⟨e,-,-,-,h,-⟩:=h;exact h
theorem qzE(ht:TtOk ns.length (EdT es es.length) to){f:Int}{within:Int}(hb:∀ b,bt within b=true↔b<ns.length/\inB f (nth z5 ns b)=true){a b:Nat}(ha:inB f (nth z5 ns a)=true)(han:a<ns.length) :
  EB to within a b↔EdG ns es f a b/\b<ns.length:=by
 unfold EB
 rw [ht.bit,hb]
 constructor
 ·rintro⟨⟨-,-,j,hj,e1,e2⟩,hbn,hin⟩
  exact⟨⟨_,qbJ hj,e1,e2,ha,hin⟩,hbn⟩
 ·rintro⟨⟨e,he,e1,e2,-,hin⟩,hbn⟩
  obtain⟨j,hj,rfl⟩:=mem_nth (z:=z3) he
  exact⟨⟨han,hbn,j,hj,e1,e2⟩,hbn,hin⟩
theorem Pk_EB(hv:∀ x∈es,0<=x.1/\x.1<ns.length/\0<=x.2.1/\x.2.1<ns.length)(ht:TtOk ns.length (EdT es es.length) to){f:Int}{within:Int}(hb:∀ b,bt within b=true↔b<ns.length/\inB f (nth z5 ns b)=true){a b:Nat}(ha:inB f (nth z5 ns a)=true)(han:a<ns.length) :
  Pk (EB to within) ns.length a b↔Pk (EdG ns es f) ns.length a b:=by
 constructor
 ·intro h
  induction h with
  | one h=>exact .one ((qzE ht hb ha han).1 h).1
  | cons h hm _ ih=>
   have:=((qzE ht hb ha han).1 h).1
   exact .cons this hm (ih (by obtain⟨e,-,-,-,-,h⟩:=this;exact h) hm)
 ·intro h
  have hbn:∀ {a b},EdG ns es f a b->b<ns.length:=fun h=>by
   obtain⟨e,he,e1,e2,-⟩:=h
   have:=hv e he
   omega
  induction h with
  | one h=>exact .one ((qzE ht hb ha han).2 ⟨h,hbn h⟩)
  | cons h hm _ ih=>
   exact .cons ((qzE ht hb ha han).2 ⟨h,hm⟩) hm (ih (by obtain⟨e,-,-,-,-,h⟩:=h;exact h) hm)
abbrev QR(ns:List Nd)(es:List Ed)(to:List Int)(r:Option qg):Prop:=∃ x:Int,r=some (x,ns,es,to)/\(0<=x↔Ringy ns es)
theorem qEu(k:_->Option qg){i:Nat}(hi:i<ns.length)(hn:ns.length<=12)(v4 bad f within:Int)(kn:_->Option qg) :
  qcT N k ns (ns.length:Int) ns es to v4 bad f (i:Int) within kn=kn ((ns,(ns.length:Int),ns,es,to,v4,bad,f),((i:Int)+1,if inB f (nth z5 ns i)=true then ior .u32 within (one i) else within)):=by
 simp only [qcT,lt_d hi,ge0_d,Bool.and_self,cond_true,Int.toNat_natCast,joinD,qhT,qhU,show qcA N ((i:Int),())=some (one i,()) from qCJ N i,Option.bind_some,ix1 hi (show ns.length<=100000 by omega)]
 unfold inB
 by_cases h1:(nth z5 ns i).2.1>f
 ·have h1':(nth ((0:Int),(0:Int),(0:Int),(0:Int),(0:Int)) ns i).2.1>f:=h1
  rw [qy h1',cond_true,zH h1,zH rfl]
 ·have h1':¬ (nth ((0:Int),(0:Int),(0:Int),(0:Int),(0:Int)) ns i).2.1>f:=h1
  rw [qO h1',cond_false,zJ h1]
  by_cases h2:(nth z5 ns i).2.1=f
  ·have h2':((nth ((0:Int),(0:Int),(0:Int),(0:Int),(0:Int)) ns i).2.1==f)=true:=beq_iff_eq.2 h2
   rw [h2',cond_true,zH h2]
   have e:(nth ((0:Int),(0:Int),(0:Int),(0:Int),(0:Int)) ns i).1=(nth z5 ns i).1:=rfl
   rw [e]
   cases (nth z5 ns i).1 != 6 <;> rfl
  ·have h2':((nth ((0:Int),(0:Int),(0:Int),(0:Int),(0:Int)) ns i).2.1==f)=false:=zb h2
   rw [h2',cond_false,zJ h2];rfl
theorem qCU(hN:1000<=N)(hn:ns.length<=12)(hv:∀ x∈es,0<=x.1/\x.1<ns.length/\0<=x.2.1/\x.2.1<ns.length)(ht:TtOk ns.length (EdT es es.length) to):QR ns es to (qbL N (ns,es,to)):=by
 simp only [qbL,qhb,joinD,loopE]
 refine qmR (QR ns es to) 4 (fun i s=>s=(ns,es,to,s.2.2.2.1,(i:Int)+1)/\W32 s.2.2.2.1/\∀ b,bt s.2.2.2.1 b=true↔∃ f:Nat,1<=f/\f<=i/\∃ a,RingAt ns es (f:Int) a b) ?_ ?_ (by omega) ?_
 ·rintro i ⟨_,_,_,bad,_⟩ hi ⟨e,hwb,hbad⟩ kn hk
  simp only [zO,true_and,and_true] at e hwb hbad
  obtain⟨rfl,rfl,rfl,rfl⟩:=e
  rename_i ns es to
  have hf:((i+1:Nat):Int)=(i:Int)+1:=by omega
  simp only [qew,qy (show (i:Int)+1<=4 by omega),cond_true,joinD,loopE]
  refine qmR (QR ns es to) ns.length (fun a s=>s.1=(a:Int)/\W32 s.2/\∀ b,bt s.2 b=true↔b<a/\inB ((i:Int)+1) (nth z5 ns b)=true) ?_ ?_ (by omega) ⟨rfl,W32.zero,fun b=>by rw [qik];exact⟨(fun h=>by cases h),fun h=>absurd h.1 (zAV _)⟩⟩
  ·rintro a ⟨_,within⟩ ha ⟨rfl,hw,hb⟩ kn' hk'
   simp only at hw hb
   rw [qEu _ ha hn,qK]
   refine hk' _ ⟨by simp,?_,fun b=>?_⟩
   ·simp only;split
    ·exact W32.ior
    ·exact hw
   ·simp only
    split
    ·rename_i hin
     rw [qxa hw (W32.one a),zz,hb,qCr (by omega),zN]
     constructor
     ·rintro (h | rfl)
      ·exact⟨by omega,h.2⟩
      ·exact⟨by omega,hin⟩
     ·rintro⟨h1,h2⟩
      by_cases q:b=a
      ·exact .inr q
      ·exact .inl ⟨by omega,h2⟩
    ·rename_i hin
     rw [hb]
     constructor
     ·rintro⟨h1,h2⟩;exact⟨by omega,h2⟩
     ·rintro⟨h1,h2⟩
      by_cases q:b=a
      ·subst q;exact absurd h2 hin
      ·exact⟨by omega,h2⟩
  ·rintro⟨_,within⟩ ⟨rfl,hw,hb⟩ kn'
   simp only at hw hb
   simp only [qcT,qbb,cond_false,qhV,joinD,qvi,Option.bind_some,forE]
   refine els_Q hw (QR ns es to) (fun dn s=>s=(ns,es,to,s.2.2.2)/\W32 s.2.2.2/\∀ b,bt s.2.2.2 b=true↔bt bad b=true\/∃ a∈dn,RingAt ns es ((i:Int)+1) a b) ?_ ?_ ⟨rfl,hwb,fun b=>⟨.inl,fun h=>by
    rcases h with h | ⟨a,h,_⟩
    ·exact h
    ·cases h⟩⟩
   ·rintro dn a r ⟨_,_,_,bad1⟩ he ⟨e,hwb1,hbad1⟩ kn' hk'
    simp only [zO,and_true] at e hwb1 hbad1
    obtain⟨rfl,rfl,rfl⟩:=e
    rename_i ns es to
    obtain⟨ha,hin⟩:=(hb a).1 (qqV he).2
    simp only [qhW,ge0_d,lt_d ha,Bool.and_self,cond_true,Int.toNat_natCast]
    have ed:(nth ((0:Int),(0:Int),(0:Int),(0:Int),(0:Int)) ns a).2.1=qcR ns a:=rfl
    rw [ed]
    by_cases hd:qcR ns a=(i:Int)+1
    ·rw [hd,bne_self_eq_false,cond_false]
     obtain⟨all,b1,b2,b3⟩:=qxf (es:=es) hN hn ht hw ha
     simp only [b1,Option.bind_some,qvi,forE]
     refine els_Q b2 (QR ns es to) (fun dn2 s=>s=(ns,es,to,s.2.2.2)/\W32 s.2.2.2/\∀ b,bt s.2.2.2 b=true↔bt bad1 b=true\/b∈dn2/\RingAt ns es ((i:Int)+1) a b) ?_ ?_ ⟨rfl,hwb1,fun b=>⟨.inl,fun h=>by
      rcases h with h | ⟨h,_⟩
      ·exact h
      ·cases h⟩⟩
     ·rintro dn2 j r2 ⟨_,_,_,bad2⟩ he2 ⟨e,hwb2,hbad2⟩ kn2 hk2
      simp only [zO,and_true] at e hwb2 hbad2
      obtain⟨rfl,rfl,rfl⟩:=e
      rename_i ns es to
      have hgo:=(Pk_EB hv ht hb hin ha).1 ((b3 j).1 (qqV he2).2)
      have hj:j<ns.length/\inB ((i:Int)+1) (nth z5 ns j)=true:=by
       obtain⟨x,hx⟩:=Pk.last ((b3 j).1 (qqV he2).2)
       exact (hb j).1 hx.2
      obtain⟨al2,c1,c2,c3⟩:=qxf (es:=es) hN hn ht hw hj.1
      simp only [qhX,c1,Option.bind_some,qFJ N c2,show qcA N ((j:Int),())=some (one j,()) from qCJ N j]
      have hR:RingAt ns es ((i:Int)+1) a j↔bt al2 a=true:=by
       rw [c3,Pk_EB hv ht hb hj.2 hj.1]
       exact⟨fun h=>h.back,fun h=>⟨ha,hj.1,hd,hgo,h⟩⟩
      cases q:bt al2 a with
      | true=>
       rw [cond_true,qK]
       refine hk2 _ ⟨rfl,W32.ior,fun b=>?_⟩
       simp only
       rw [qxa hwb2 (W32.one j),zz,hbad2,qCr (qqV he2).1,zN,zL,zM]
       constructor
       ·rintro ((h | h) | rfl)
        ·exact .inl h
        ·exact .inr ⟨.inl h.1,h.2⟩
        ·exact .inr ⟨.inr rfl,hR.2 q⟩
       ·rintro (h | ⟨h | h,h'⟩)
        ·exact .inl (.inl h)
        ·exact .inl (.inr ⟨h,h'⟩)
        ·exact .inr h
      | false=>
       rw [cond_false,qK]
       refine hk2 _ ⟨rfl,hwb2,fun b=>?_⟩
       simp only
       rw [hbad2,zL,zM]
       constructor
       ·rintro (h | h)
        ·exact .inl h
        ·exact .inr ⟨.inl h.1,h.2⟩
       ·rintro (h | ⟨h | rfl,h'⟩)
        ·exact .inl h
        ·exact .inr ⟨h,h'⟩
        ·rw [hR,q] at h';cases h'
     ·rintro⟨_,_,_,bad2⟩ ⟨e,hwb2,hbad2⟩
      simp only [zO,and_true] at e hwb2 hbad2
      obtain⟨rfl,rfl,rfl⟩:=e
      rename_i ns es to
      rw [qK]
      refine hk' _ ⟨rfl,hwb2,fun b=>?_⟩
      simp only
      rw [hbad2,hbad1]
      constructor
      ·rintro ((h | ⟨x,hx,h⟩) | ⟨-,h⟩)
       ·exact .inl h
       ·exact .inr ⟨x,za _ hx,h⟩
       ·exact .inr ⟨a,by simp,h⟩
      ·rintro (h | ⟨x,hx,h⟩)
       ·exact .inl (.inl h)
       ·rcases zL.1 hx with hx | hx
        ·exact .inl (.inr ⟨x,hx,h⟩)
        ·obtain rfl:=zM.1 hx
         refine .inr ⟨(quw b2).2 ((b3 b).2 ((Pk_EB hv ht hb hin ha).2 h.go)),h⟩
    ·rw [show (qcR ns a != (i:Int)+1)=true from bne_iff_ne.2 hd,cond_true,qK]
     refine hk' _ ⟨rfl,hwb1,fun b=>?_⟩
     simp only
     rw [hbad1]
     constructor
     ·rintro (h | ⟨x,hx,h⟩)
      ·exact .inl h
      ·exact .inr ⟨x,za _ hx,h⟩
     ·rintro (h | ⟨x,hx,h⟩)
      ·exact .inl h
      ·rcases zL.1 hx with hx | hx
       ·exact .inr ⟨x,hx,h⟩
       ·obtain rfl:=zM.1 hx
        exact absurd h.deep hd
   ·rintro⟨_,_,_,bad1⟩ ⟨e,hwb1,hbad1⟩
    simp only [zO,and_true] at e hwb1 hbad1
    obtain⟨rfl,rfl,rfl⟩:=e
    rename_i ns es to
    simp only [qhY,qK,w64 (n:=(i:Int)+1+1) (by omega) (by omega)]
    refine hk _ ⟨by simp,hwb1,fun b=>?_⟩
    simp only
    rw [hbad1,hbad]
    constructor
    ·rintro (⟨f,f1,f2,a,h⟩ | ⟨a,-,h⟩)
     ·exact⟨f,f1,by omega,a,h⟩
     ·exact⟨i+1,by omega,by omega,a,by rw [hf];exact h⟩
    ·rintro⟨f,f1,f2,a,h⟩
     by_cases q:f=i+1
     ·subst q
      rw [hf] at h
      exact .inr ⟨a,(quw hw).2 ((hb a).2 ⟨h.an,EdG.first h.go⟩),h⟩
     ·exact .inl ⟨f,f1,by omega,a,h⟩
 ·rintro⟨_,_,_,bad,_⟩ ⟨e,hwb,hbad⟩ kn
  simp only [zO,true_and,and_true] at e hwb hbad
  obtain⟨rfl,rfl,rfl,rfl⟩:=e
  rename_i ns es to
  simp only [qew,qO (show ¬ (((4:Nat):Int)+1<=4) by omega),cond_false,qhZ,joinD,qvi,Option.bind_some,forE]
  refine els_Q hwb (QR ns es to) (fun dn _=>dn = []) ?_ ?_ rfl
  ·rintro dn j r ⟨⟩ he rfl kn' hk'
   simp only [qia]
   obtain⟨f,f1,f2,a,h⟩:=(hbad j).1 (qqV he).2
   exact⟨_,rfl,fun _=>⟨f,f1,f2,a,j,h⟩,fun _=>by omega⟩
  ·rintro⟨⟩ he
   simp only [qib]
   refine⟨_,rfl,fun h=>absurd h (by decide),fun ⟨f,f1,f2,a,j,h⟩=>?_⟩
   have:=(quw hwb).2 ((hbad j).2 ⟨f,f1,f2,a,h⟩)
   rw [he] at this;cases this
 ·refine⟨rfl,W32.zero,fun b=>?_⟩
  simp only [qik]
  exact⟨(fun h=>by cases h),fun ⟨f,f1,f2,_⟩=>by omega⟩
end
end Go.Proofs.YtgnnhemoocfclaaGreatDoor.Gh
