import Derived.Test.YtgnnhemoocfclaaGreatDoorGhS
namespace Go.Proofs.YtgnnhemoocfclaaGreatDoor.Gh
open Go.Abs Go.Gr
abbrev z5:Nd:=(0,0,0,0,0)
abbrev z3:Ed:=(0,0,0)
def inB(f:Int)(x:Nd):Bool:=if x.2.1>f then true else if x.2.1=f then (x.1 != 6) else false
def EdG(ns:List Nd)(es:List Ed)(f:Int)(a b:Nat):Prop:=∃ e∈es,e.1=(a:Int)/\e.2.1=(b:Int)/\inB f (nth z5 ns a)=true/\inB f (nth z5 ns b)=true
def RW(n:Nat)(way:List Bool)(a b:Nat):Prop:=nth false way (a*n+b)=true
instance (n:Nat) (way:List Bool) (a b:Nat):Decidable (RW n way a b):=by unfold RW;infer_instance
theorem quB{α:Type}(z:α)(xs:List α)(i j:Nat)(y:α):nth z (xs.set i y) j=if i=j/\i<xs.length then y else nth z xs j:=by
 unfold nth
 simp only [zK,zAg]
 split
 ·rename_i h
  subst h
  by_cases hi:i<xs.length <;> simp [hi]
 ·rename_i h;simp [h]
theorem qFf(n i:Nat):nth false (List.replicate n false) i=false:=by
 unfold nth
 simp only [zK,zBG]
 split <;> rfl
theorem idx_w{n i k:Nat}(hn:n<=12)(hi:i<n)(hk:k<n):IntKind.i64.wrap (IntKind.i64.wrap ((i:Int)*(n:Int))+(k:Int))=((i*n+k:Nat):Int):=by
 have h1:i*n<=12*12:=zCK (by omega) hn
 have h2:((i:Int)*(n:Int))=((i*n:Nat):Int):=by simp
 rw [h2,w64 (n:=((i*n:Nat):Int)) (by omega) (by omega),w64 (by omega) (by omega)]
 omega
theorem qrJ{n i k:Nat}(hi:i<n)(hk:k<n):i*n+k<n*n:=by
 have:(i+1)*n<=n*n:=zj n hi
 rw [zAH] at this
 omega
theorem qFr{n i k a b:Nat}(hk:k<n)(hb:b<n)(h:i*n+k=a*n+b):i=a/\k=b:=by
 have hn:0<n:=by omega
 have e1:(i*n+k) / n=i:=by rw [zAt,Nat.add_mul_div_right _ _ hn,zBM hk,Nat.zero_add]
 have e2:(a*n+b) / n=a:=by rw [zAt,Nat.add_mul_div_right _ _ hn,zBM hb,Nat.zero_add]
 have:i=a:=by rw [<- e1,<- e2,h]
 subst this
 exact⟨rfl,by omega⟩
theorem qEW{n i j a b:Nat}{way:List Bool}(hl:way.length=n*n)(hi:i<n)(hj:j<n)(hb:b<n):RW n (way.set (i*n+j) true) a b↔RW n way a b\/(a=i/\b=j):=by
 unfold RW
 rw [quB]
 by_cases e:i*n+j=a*n+b
 ·rw [zH ⟨e,by rw [hl];exact qrJ hi hj⟩]
  obtain⟨e1,e2⟩:=qFr hj hb e
  simp [e1,e2]
 ·rw [zJ (fun h=>e h.1)]
  constructor
  ·exact .inl
  ·rintro (h | ⟨rfl,rfl⟩)
   ·exact h
   ·exact absurd rfl e
section
variable {N : Nat} {ns : List Nd} {es : List Ed} {f : Int}
theorem qFL(hN:1000<=N)(hn:ns.length<=12)(way:List Bool):∃ ins:List Bool,ins.length=ns.length/\(∀ i,i<ns.length->nth false ins i=inB f (nth z5 ns i))/\∀ k:_->Option qH,
  loopE (fun (c:Int×Int×(List Nd)×(List Ed)×List Bool) (s:Int×List Bool) kn=>qdJ N k c.1 c.2.1 c.2.2.1 c.2.2.2.1 c.2.2.2.2 s.1 s.2 kn) N (f,(ns.length:Int),ns,es,way) ((0:Int),List.replicate ns.length false)=k ((ns.length:Int),ns,es,way,ins):=by
 simp only [loopE]
 obtain⟨s',hI,e⟩:=qhB (fun (k:_->Option qH) s kn=>qdJ N k f (ns.length:Int) ns es way s.1 s.2 (backE (f,(ns.length:Int),ns,es,way) kn)) (fun k (s:Int×List Bool)=>k ((ns.length:Int),ns,es,way,s.2)) ns.length
  (fun i s=>s.1=(i:Int)/\s.2.length=ns.length/\∀ j,j<i->nth false s.2 j=inB f (nth z5 ns j)) (N:=N) (s:=((0:Int),List.replicate ns.length false))
  (by
   rintro i ⟨_,ys⟩ hi ⟨rfl,hl,hv⟩
   simp only at hl hv
   have hset:∀ v,v=inB f (nth z5 ns i)->((i:Int)+1,ys.set i v).1=((i+1:Nat):Int)/\((i:Int)+1,ys.set i v).2.length=ns.length/\∀ j,j<i+1->nth false ((i:Int)+1,ys.set i v).2 j=inB f (nth z5 ns j):=fun v hv'=>by
    refine⟨by simp,by simp [hl],fun j hj=>?_⟩
    simp only [quB]
    by_cases e:i=j
    ·subst e;rw [zH ⟨rfl,by omega⟩,hv']
    ·rw [zJ (fun h=>e h.1)];exact hv j (by omega)
   have hix:IntKind.i64.wrap ((i:Int)+1)=(i:Int)+1:=w64 (by omega) (by omega)
   by_cases h1:(nth z5 ns i).2.1>f
   ·refine⟨((i:Int)+1,ys.set i true),hset true (by unfold inB;rw [zH h1]),fun K kn=>?_⟩
    simp only [qdJ,lt_d hi,ge0_d,Int.toNat_natCast,Bool.and_self,cond_true,hix,qB]
    rw [qi h1,lt_d (show i<ys.length by omega)];rfl
   ·by_cases h2:(nth z5 ns i).2.1=f
    ·refine⟨((i:Int)+1,ys.set i ((nth z5 ns i).1 != 6)),hset _ (by unfold inB;rw [zJ h1,zH h2]),fun K kn=>?_⟩
     simp only [qdJ,lt_d hi,ge0_d,Int.toNat_natCast,Bool.and_self,cond_true,hix,qB]
     rw [qo h1,lt_d (show i<ys.length by omega),show ((nth z5 ns i).2.1==f)=true from beq_iff_eq.2 h2];rfl
    ·refine⟨((i:Int)+1,ys.set i false),hset _ (by unfold inB;rw [zJ h1,zJ h2]),fun K kn=>?_⟩
     simp only [qdJ,lt_d hi,ge0_d,Int.toNat_natCast,Bool.and_self,cond_true,hix,qB]
     rw [qo h1,lt_d (show i<ys.length by omega),show ((nth z5 ns i).2.1==f)=false from zV h2];rfl)
  (by
   rintro⟨_,ys⟩ ⟨rfl,hl,hv⟩ K kn
   simp only [qdJ,qaE,cond_false])
  (by omega) ⟨rfl,by simp,fun j h=>by omega⟩
 exact⟨s'.2,hI.2.1,hI.2.2,e⟩
theorem qGp(hN:1000<=N)(hn:ns.length<=12)(he:es.length<=20)(hv:∀ x∈es,0<=x.1/\x.1<ns.length/\0<=x.2.1/\x.2.1<ns.length){ins:List Bool}(hil:ins.length=ns.length)(hin:∀ i,i<ns.length->nth false ins i=inB f (nth z5 ns i))
  : ∃ way:List Bool,way.length=ns.length*ns.length/\(∀ a b,a<ns.length->b<ns.length->(RW ns.length way a b↔EdG ns es f a b))/\∀ k:_->Option qH,
  loopE (fun (c:Int×(List Ed)×Int×(List Nd)×(List Ed)×List Bool) (s:Int×List Bool) kn=>qfe N k c.1 c.2.1 c.2.2.1 c.2.2.2.1 c.2.2.2.2.1 c.2.2.2.2.2 s.1 s.2 kn) N ((ns.length:Int),es,(es.length:Int),ns,es,ins) ((0:Int),List.replicate (ns.length*ns.length) false)=k ((ns.length:Int),ns,es,way,ins):=by
 simp only [loopE]
 obtain⟨s',hI,e⟩:=qhB (fun (k:_->Option qH) s kn=>qfe N k (ns.length:Int) es (es.length:Int) ns es ins s.1 s.2 (backE ((ns.length:Int),es,(es.length:Int),ns,es,ins) kn)) (fun k (s:Int×List Bool)=>k ((ns.length:Int),ns,es,s.2,ins)) es.length
  (fun i s=>s.1=(i:Int)/\s.2.length=ns.length*ns.length/\∀ a b,a<ns.length->b<ns.length->(RW ns.length s.2 a b↔EdG ns (es.take i) f a b)) (N:=N) (s:=((0:Int),List.replicate (ns.length*ns.length) false))
  (by
   rintro i ⟨_,way⟩ hi ⟨rfl,hl,hw⟩
   simp only at hl hw
   obtain⟨q1,q2,q3,q4⟩:=hv _ (qbt (z:=z3) hi)
   have hix:IntKind.i64.wrap ((i:Int)+1)=(i:Int)+1:=w64 (by omega) (by omega)
   generalize hx:nth z3 es i=x at *
   obtain⟨a0,ha0⟩:=zCO q1
   obtain⟨b0,hb0⟩:=zCO q3
   have hat:a0<ns.length:=by omega
   have hbt:b0<ns.length:=by omega
   have htake:es.take (i+1)=es.take i ++ [x]:=by
    rw [zb hi,<- hx,qcD hi]
   have hE:∀ a b,EdG ns (es.take (i+1)) f a b↔EdG ns (es.take i) f a b\/(x.1=(a:Int)/\x.2.1=(b:Int)/\inB f (nth z5 ns a)=true/\inB f (nth z5 ns b)=true):=fun a b=>by
    rw [htake]
    unfold EdG
    constructor
    ·rintro⟨e,hm,r⟩
     rcases zL.1 hm with hm | hm
     ·exact .inl ⟨e,hm,r⟩
     ·rw [zN] at hm;subst hm;exact .inr r
    ·rintro (⟨e,hm,r⟩ | r)
     ·exact⟨e,zY _ hm,r⟩
     ·exact⟨x,by simp,r⟩
   have hkeep:¬ (inB f (nth z5 ns a0)=true/\inB f (nth z5 ns b0)=true)->∀ a b,a<ns.length->b<ns.length->(RW ns.length way a b↔EdG ns (es.take (i+1)) f a b):=fun hno a b ha hb=>by
    rw [hw a b ha hb,hE]
    constructor
    ·exact .inl
    ·rintro (h | ⟨e1,e2,r1,r2⟩)
     ·exact h
     ·exact absurd ⟨by rw [show a0=a by omega];exact r1,by rw [show b0=b by omega];exact r2⟩ hno
   have hz:(nth ((0:Int),(0:Int),(0:Int)) es i)=x:=hx
   by_cases h1:inB f (nth z5 ns a0)=true
   ·by_cases h2:inB f (nth z5 ns b0)=true
    ·refine⟨((i:Int)+1,way.set (a0*ns.length+b0) true),⟨by simp,by simp [hl],fun a b ha hb=>?_⟩,fun K kn=>?_⟩
     ·rw [qEW hl hat hbt hb,hw a b ha hb,hE]
      constructor
      ·rintro (h | ⟨rfl,rfl⟩)
       ·exact .inl h
       ·exact .inr ⟨ha0,hb0,h1,h2⟩
      ·rintro (h | ⟨e1,e2,_⟩)
       ·exact .inl h
       ·exact .inr ⟨by omega,by omega⟩
     ·simp only [qfe,lt_d hi,ge0_d,Int.toNat_natCast,Bool.and_self,cond_true,hix,qB,hz,ha0,hb0,lt_d (show a0<ins.length by omega),lt_d (show b0<ins.length by omega),hin a0 hat,hin b0 hbt,h1,h2,
       idx_w hn hat hbt,lt_d (show a0*ns.length+b0<way.length by rw [hl];exact qrJ hat hbt)]
    ·refine⟨((i:Int)+1,way),⟨by simp,hl,hkeep fun h=>h2 h.2⟩,fun K kn=>?_⟩
     simp only [qfe,lt_d hi,ge0_d,Int.toNat_natCast,Bool.and_self,cond_true,hix,qB,hz,ha0,hb0,lt_d (show a0<ins.length by omega),lt_d (show b0<ins.length by omega),hin a0 hat,hin b0 hbt,h1,zAE.2 h2,cond_false]
   ·refine⟨((i:Int)+1,way),⟨by simp,hl,hkeep fun h=>h1 h.1⟩,fun K kn=>?_⟩
    simp only [qfe,lt_d hi,ge0_d,Int.toNat_natCast,Bool.and_self,cond_true,hix,qB,hz,ha0,lt_d (show a0<ins.length by omega),hin a0 hat,zAE.2 h1,cond_false])
  (by
   rintro⟨_,way⟩ ⟨rfl,hl,hw⟩ K kn
   simp only [qfe,qaE,cond_false])
  (by omega) ⟨rfl,by simp,fun a b ha hb=>by
   constructor
   ·intro h;simp only [RW,qFf] at h;cases h
   ·rintro⟨e,hm,_⟩;simp at hm⟩
 exact⟨s'.2,hI.2.1,by simpa only [zAJ] using hI.2.2,e⟩
variable {E : Nat -> Nat -> Prop}
theorem qGs(hN:1000<=N){n k i:Nat}(hn:n<=12)(hk:k<n)(hi:i<n)(ins:List Bool){way0:List Bool}(hl0:way0.length=n*n)(hr0:Rnd E n k i 0 (RW n way0)) :
  ∃ way:List Bool,way.length=n*n/\Rnd E n k i n (RW n way)/\∀ K:_->Option qH,
  loopE (fun (c:Int×Int×Int×(List Nd)×(List Ed)×List Bool) (s:Int×List Bool) kn=>qff N K c.1 c.2.1 c.2.2.1 c.2.2.2.1 c.2.2.2.2.1 c.2.2.2.2.2 s.1 s.2 kn) N ((n:Int),(k:Int),(i:Int),ns,es,ins) ((0:Int),way0)=K ((n:Int),(k:Int),(i:Int),ns,es,way,ins):=by
 simp only [loopE]
 obtain⟨s',hI,e⟩:=qhB (fun (K:_->Option qH) s kn=>qff N K (n:Int) (k:Int) (i:Int) ns es ins s.1 s.2 (backE ((n:Int),(k:Int),(i:Int),ns,es,ins) kn)) (fun K (s:Int×List Bool)=>K ((n:Int),(k:Int),(i:Int),ns,es,s.2,ins)) n
  (fun j s=>s.1=(j:Int)/\s.2.length=n*n/\Rnd E n k i j (RW n s.2)) (N:=N) (s:=((0:Int),way0))
  (by
   rintro j ⟨_,way⟩ hj ⟨rfl,hl,hr⟩
   simp only at hl hr
   have hix:IntKind.i64.wrap ((j:Int)+1)=(j:Int)+1:=w64 (by omega) (by omega)
   have l1:=lt_d (show i*n+k<way.length by rw [hl];exact qrJ hi hk)
   have l2:=lt_d (show k*n+j<way.length by rw [hl];exact qrJ hk hj)
   have l3:=lt_d (show i*n+j<way.length by rw [hl];exact qrJ hi hj)
   cases h1:nth false way (i*n+k) with
   | false=>
    refine⟨((j:Int)+1,way),⟨by simp,hl,hr.miss hk hi hj fun h=>by have:=h.1;unfold RW at this;rw [h1] at this;cases this⟩,fun K kn=>?_⟩
    simp only [qff,lt_d hj,idx_w hn hi hk,ge0_d,Int.toNat_natCast,Bool.and_self,cond_true,l1,h1,cond_false,hix,qB]
   | true=>
    cases h2:nth false way (k*n+j) with
    | false=>
     refine⟨((j:Int)+1,way),⟨by simp,hl,hr.miss hk hi hj fun h=>by have:=h.2;unfold RW at this;rw [h2] at this;cases this⟩,fun K kn=>?_⟩
     simp only [qff,lt_d hj,idx_w hn hi hk,idx_w hn hk hj,ge0_d,Int.toNat_natCast,Bool.and_self,cond_true,l1,l2,h1,h2,cond_false,hix,qB]
    | true=>
     refine⟨((j:Int)+1,way.set (i*n+j) true),⟨by simp,by simp [hl],hr.hit hk hi hj h1 h2 fun a b ha hb=>qEW hl hi hj hb⟩,fun K kn=>?_⟩
     simp only [qff,lt_d hj,idx_w hn hi hk,idx_w hn hk hj,idx_w hn hi hj,ge0_d,Int.toNat_natCast,Bool.and_self,cond_true,l1,l2,l3,h1,h2,hix,qB])
  (by
   rintro⟨_,way⟩ ⟨rfl,hl,hr⟩ K kn
   simp only [qff,qaE,cond_false])
  (by omega) ⟨rfl,hl0,hr0⟩
 exact⟨s'.2,hI.2.1,hI.2.2,e⟩
theorem qGr(hN:1000<=N){n k:Nat}(hn:n<=12)(hk:k<n)(ins:List Bool){way0:List Bool}(hl0:way0.length=n*n)(hr0:Btw E n k (RW n way0)) :
  ∃ way:List Bool,way.length=n*n/\Btw E n (k+1) (RW n way)/\∀ K:_->Option qH,
  loopE (fun (c:Int×Int×(List Nd)×(List Ed)×List Bool) (s:Int×List Bool) kn=>qhQ N K c.1 c.2.1 c.2.2.1 c.2.2.2.1 c.2.2.2.2 s.1 s.2 kn) N ((n:Int),(k:Int),ns,es,ins) ((0:Int),way0)=K ((n:Int),(k:Int),ns,es,way,ins):=by
 simp only [loopE]
 obtain⟨s',hI,e⟩:=qhB (fun (K:_->Option qH) s kn=>qhQ N K (n:Int) (k:Int) ns es ins s.1 s.2 (backE ((n:Int),(k:Int),ns,es,ins) kn)) (fun K (s:Int×List Bool)=>K ((n:Int),(k:Int),ns,es,s.2,ins)) n
  (fun i s=>s.1=(i:Int)/\s.2.length=n*n/\Rnd E n k i 0 (RW n s.2)) (N:=N) (s:=((0:Int),way0))
  (by
   rintro i ⟨_,way⟩ hi ⟨rfl,hl,hr⟩
   simp only at hl hr
   have hix:IntKind.i64.wrap ((i:Int)+1)=(i:Int)+1:=w64 (by omega) (by omega)
   obtain⟨way1,hl1,hr1,e⟩:=qGs (N:=N) (ns:=ns) (es:=es) hN hn hk hi ins hl hr
   refine⟨((i:Int)+1,way1),?_,fun K kn=>?_⟩
   ·exact⟨by simp,hl1,hr1.row⟩
   ·simp only [qhQ,lt_d hi,cond_true,joinD,e,qqX,hix,qB])
  (by
   rintro⟨_,way⟩ ⟨rfl,hl,hr⟩ K kn
   simp only [qhQ,qaE,cond_false])
  (by omega) ⟨rfl,hl0,.start hr0⟩
 exact⟨s'.2,hI.2.1,hI.2.2.done,e⟩
theorem qGq(hN:1000<=N){n:Nat}(hn:n<=12)(ins:List Bool){way0:List Bool}(hl0:way0.length=n*n)(hr0:Btw E n 0 (RW n way0)) :
  ∃ way:List Bool,way.length=n*n/\Btw E n n (RW n way)/\∀ K:_->Option qH,
  loopE (fun (c:Int×(List Nd)×(List Ed)×List Bool) (s:Int×List Bool) kn=>qhP N K c.1 c.2.1 c.2.2.1 c.2.2.2 s.1 s.2 kn) N ((n:Int),ns,es,ins) ((0:Int),way0)=K (ns,es,way,ins):=by
 simp only [loopE]
 obtain⟨s',hI,e⟩:=qhB (fun (K:_->Option qH) s kn=>qhP N K (n:Int) ns es ins s.1 s.2 (backE ((n:Int),ns,es,ins) kn)) (fun K (s:Int×List Bool)=>K (ns,es,s.2,ins)) n
  (fun i s=>s.1=(i:Int)/\s.2.length=n*n/\Btw E n i (RW n s.2)) (N:=N) (s:=((0:Int),way0))
  (by
   rintro i ⟨_,way⟩ hi ⟨rfl,hl,hr⟩
   simp only at hl hr
   have hix:IntKind.i64.wrap ((i:Int)+1)=(i:Int)+1:=w64 (by omega) (by omega)
   obtain⟨way1,hl1,hr1,e⟩:=qGr (N:=N) (ns:=ns) (es:=es) hN hn hi ins hl hr
   refine⟨((i:Int)+1,way1),?_,fun K kn=>?_⟩
   ·exact⟨by simp,hl1,hr1⟩
   ·simp only [qhP,lt_d hi,cond_true,joinD,e,qqY,hix,qB])
  (by
   rintro⟨_,way⟩ ⟨rfl,hl,hr⟩ K kn
   simp only [qhP,qaE,cond_false])
  (by omega) ⟨rfl,hl0,hr0⟩
 exact⟨s'.2,hI.2.1,hI.2.2,e⟩
theorem qEp(hN:1000<=N)(hn:ns.length<=12)(he:es.length<=20)(hv:∀ x∈es,0<=x.1/\x.1<ns.length/\0<=x.2.1/\x.2.1<ns.length)(f:Int) :
  ∃ way:List Bool,qgn N ((ns,es),f,())=some way/\way.length=ns.length*ns.length/\∀ a b,a<ns.length->b<ns.length->(RW ns.length way a b↔Pk (EdG ns es f) ns.length a b):=by
 have hnn:ns.length*ns.length<=12*12:=zCK hn hn
 have hw:IntKind.i64.wrap ((ns.length:Int)*(ns.length:Int))=((ns.length*ns.length:Nat):Int):=by
  have h2:((ns.length:Int)*(ns.length:Int))=((ns.length*ns.length:Nat):Int):=by simp
  rw [h2,w64 (by omega) (by omega)]
 obtain⟨ins,i1,i2,i3⟩:=qFL (N:=N) (ns:=ns) (es:=es) (f:=f) hN hn (List.replicate (ns.length*ns.length) false)
 obtain⟨way1,w1,w2,w3⟩:=qGp (N:=N) (f:=f) hN hn he hv i1 i2
 obtain⟨way,v1,v2,v3⟩:=qGq (N:=N) (ns:=ns) (es:=es) (E:=EdG ns es f) hN hn ins w1
  ⟨fun a b ha hb h=>.one ((w2 a b ha hb).1 h),fun a b ha hb h=>(w2 a b ha hb).2 h.none⟩
 refine⟨way,?_,v1,fun a b ha hb=>⟨v2.1 a b ha hb,v2.2 a b ha hb⟩⟩
 simp only [qgn,qpr,hw,ge0_d,Int.toNat_natCast,joinD,i3,qqV,w3,qqW,v3,qqZ]
 rw [qi (show ((ns.length*ns.length:Nat):Int)<=((ns.length*ns.length:Nat):Int) by omega),qi (show ((ns.length*ns.length:Nat):Int)*1<=281474976710656 by omega),qi (show (ns.length:Int)<=(ns.length:Int) by omega),qi (show (ns.length:Int)*1<=281474976710656 by omega)];rfl
end
end Go.Proofs.YtgnnhemoocfclaaGreatDoor.Gh
