import Derived.Test.YtgnnhemoocfclaaGreatDoorGhC
namespace Go.Proofs.YtgnnhemoocfclaaGreatDoor.Gh
open Go.Abs Go.Gr
theorem qym{R:Type}{g:Int->(Int->Option R)->Option R}{n:Nat}(r:Nat->Option R)(bad:Nat->Prop)(h1:∀ i:Nat,i<n->bad i->∀ kn,g i kn=r i)(h2:∀ i:Nat,i<n->¬ bad i->∀ kn,g i kn=kn ((i:Int)+1))
  {N:Nat} (hN:n<N) (hb:∃ i,i<n/\bad i):∃ i,i<n/\bad i/\loopD g N 0=r i:=by
 obtain⟨b,⟨hbn,hbb⟩,hle⟩:=least hb
 refine⟨b,hbn,hbb,?_⟩
 exact qcd (g:=g) b (fun i=>(i:Int)) (fun i hi kn=>by rw [h2 i (by omega) (fun h=>by have:=hle i ⟨by omega,h⟩;omega)];rfl) (fun kn=>h1 b hbn hbb kn) (by omega)
theorem qiK{R:Type}{g:Int->(Int->Option R)->Option R}{n:Nat}(Q:Option R->Prop)(r:Nat->Option R)(bad:Nat->Prop){N:Nat}(hN:n<N)(hb:∃ i,i<n/\bad i)(h1:∀ i:Nat,i<n->bad i->∀ kn,g i kn=r i)(h2:∀ i:Nat,i<n->¬ bad i->∀ kn,g i kn=kn ((i:Int)+1))
  (hq:∀ i,i<n->bad i->Q (r i)):Q (loopD g N 0):=by
 obtain⟨i,hi,hbi,e⟩:=qym r bad h1 h2 hN hb
 rw [e];exact hq i hi hbi
def cnt(es:List Ed)(i:Nat):Nat:=es.countP fun e=>decide (e.2.1=(i:Int))
def qaw(ns:List Nd)(j:Nat):Int:=(nth z5 ns j).2.1
structure GrOk (ns:List Nd) (es:List Ed):Prop where
 n12:ns.length<=12
 e20:es.length<=20
 nodes:∀ x∈ns,qaz x=true
 edges:∀ i,i<es.length->qst ns es i
 ports:∀ i,i<ns.length->prt (nth z5 ns i)<=cnt es i
 rings:∀ i j,i<ns.length->j<ns.length->¬ (Pk (EdG ns es (qaw ns j)) ns.length i j/\Pk (EdG ns es (qaw ns j)) ns.length j i)
theorem GrOk.deep{ns:List Nd}{es:List Ed}(h:GrOk ns es){j:Nat}(hj:j<ns.length):1<=qaw ns j/\qaw ns j<=4:=by
 have:=qdn.1 (h.nodes _ (qbt (z:=z5) hj))
 exact⟨this.1,this.2.1⟩
section
variable {N : Nat} {ns : List Nd} {es : List Ed}
theorem qFN(hN:1000<=N)(he:es.length<=20)(n i:Nat)(a b:Int):∀ k:_->Option qg,
  loopE (fun (c:Int×Int×(List Ed)×Int×(List Nd)×(List Ed)×Int×Int) (s:Int×Int) kn=>qcc N k c.1 c.2.1 c.2.2.1 c.2.2.2.1 c.2.2.2.2.1 c.2.2.2.2.2.1 c.2.2.2.2.2.2.1 c.2.2.2.2.2.2.2 s.1 s.2 kn) N
   ((n:Int),(i:Int),es,(es.length:Int),ns,es,a,b) ((0:Int),(0:Int))=k ((n:Int),(i:Int),((cnt es i:Nat):Int),ns,es,a,b):=by
 simp only [loopE]
 obtain⟨s',hI,e⟩:=qhB (fun (k:_->Option qg) s kn=>qcc N k (n:Int) (i:Int) es (es.length:Int) ns es a b s.1 s.2 (backE ((n:Int),(i:Int),es,(es.length:Int),ns,es,a,b) kn)) (fun k (s:Int×Int)=>k ((n:Int),(i:Int),s.1,ns,es,a,b)) es.length
  (fun j s=>s.1=((cnt (es.take j) i:Nat):Int)/\s.2=(j:Int)) (N:=N) (s:=((0:Int),(0:Int)))
  (by
   rintro j ⟨_,_⟩ hj ⟨rfl,rfl⟩
   have hle:cnt (es.take j) i<=20:=zq List.countP_le_length (by simp;omega)
   have hix:IntKind.i64.wrap ((j:Int)+1)=(j:Int)+1:=w64 (by omega) (by omega)
   have hcx:IntKind.i64.wrap (((cnt (es.take j) i:Nat):Int)+1)=((cnt (es.take j) i:Nat):Int)+1:=w64 (by omega) (by omega)
   have hs:cnt (es.take (j+1)) i=cnt (es.take j) i+if (nth z3 es j).2.1=(i:Int) then 1 else 0:=by
    unfold cnt
    rw [zb hj,List.countP_append,<- qcD (z:=z3) hj]
    congr 1
    by_cases h:(nth z3 es j).2.1=(i:Int) <;> simp [h]
   by_cases h:(nth z3 es j).2.1=(i:Int)
   ·refine⟨(((cnt (es.take j) i:Nat):Int)+1,(j:Int)+1),⟨by rw [hs,zH h];simp,by simp⟩,fun K kn=>?_⟩
    simp only [qcc,lt_d hj,ge0_d,Int.toNat_natCast,Bool.and_self,cond_true,hix,hcx,qB]
    rw [show ((nth z3 es j).2.1==(i:Int))=true from beq_iff_eq.2 h];rfl
   ·refine⟨(((cnt (es.take j) i:Nat):Int),(j:Int)+1),⟨by rw [hs,zJ h];simp,by simp⟩,fun K kn=>?_⟩
    simp only [qcc,lt_d hj,ge0_d,Int.toNat_natCast,Bool.and_self,cond_true,hix,qB]
    rw [show ((nth z3 es j).2.1==(i:Int))=false from zV h];rfl)
  (by
   rintro⟨_,_⟩ ⟨rfl,rfl⟩ K kn
   simp only [qcc,qaE,cond_false])
  (by omega) ⟨rfl,rfl⟩
 intro k
 have:=e k
 rw [hI.1,zAJ] at this
 exact this
theorem w3{x:Int}(h1:1<=x)(h4:x<=4):IntKind.i64.wrap (x - 1)=((x.toNat - 1:Nat):Int):=by rw [w64 (by omega) (by omega)];omega
theorem GraphCheck_eq(hN:1000<=N)(ns:List Nd)(es:List Ed):∃ c p:Int,qcy N ((ns,es),())=some ((c,p),())/\(c=0↔GrOk ns es):=by
 simp only [qcy,qjr]
 by_cases g1:(ns.length:Int)>12
 ·exact⟨1,0,by rw [qi g1];rfl,by simp;intro h;have:=h.n12;omega⟩
 by_cases g2:(es.length:Int)>20
 ·exact⟨1,0,by rw [qo g1,qi g2];rfl,by simp;intro h;have:=h.e20;omega⟩
 rw [qo g1,qo g2]
 simp only [cond_false,joinD,loopE]
 have hn:ns.length<=12:=by omega
 have he:es.length<=20:=by omega
 have hix:∀ i:Nat,i<21->IntKind.i64.wrap ((i:Int)+1)=(i:Int)+1:=fun i hi=>w64 (by omega) (by omega)
 have b15:∀ (K:_->Option qg) (i:Nat),i<ns.length->∀ kn,qdX N K (ns.length:Int) ns es 0 0 (i:Int) (backE ((ns.length:Int),ns,es,(0:Int),(0:Int)) kn) =
   if qaz (nth z5 ns i)=true then kn ((i:Int)+1) else some ((2,(i:Int)),()):=fun K i hi kn=>by
  simp only [qdX,lt_d hi,ge0_d,Int.toNat_natCast,Bool.and_self,cond_true,nd_eta,qAZ N (nth z5 ns i),Option.bind_some,hix i (by omega),qB]
  cases qaz (nth z5 ns i) <;> rfl
 by_cases h3:∃ i,i<ns.length/\¬ qaz (nth z5 ns i)=true
 ·refine qiK (n:=ns.length) (N:=N) (fun o=>∃ c p:Int,o=some ((c,p),())/\(c=0↔GrOk ns es)) (fun i=>some (((2:Int),(i:Int)),())) (fun i=>¬ qaz (nth z5 ns i)=true) (by omega) h3 (fun i hi hb kn=>by rw [b15 _ i hi,zJ hb]) (fun i hi hb kn=>by rw [b15 _ i hi,zH (Decidable.not_not.1 hb)]) (fun i hi hb=>?_)
  exact⟨2,i,rfl,by simp;intro h;exact hb (h.nodes _ (qbt hi))⟩
 have hok:∀ x∈ns,qaz x=true:=fun x hx=>by
  obtain⟨i,hi,rfl⟩:=mem_nth (z:=z5) hx
  exact Decidable.not_not.1 fun h=>h3 ⟨i,hi,h⟩
 have hoki:∀ i,i<ns.length->qaz (nth z5 ns i)=true:=fun i hi=>hok _ (qbt hi)
 rw [qce (n:=ns.length) (N:=N) (by omega) (fun i hi kn=>by rw [b15 _ i hi,zH (hoki i hi)]) (fun kn=>by simp only [qdX,qaE,cond_false];rfl) (by omega)]
 simp only [qjs,joinD,loopE]
 have eq':∀ i,∃ c:Int,i<es.length->qgm N ((ns,es),(i:Int),())=some (c,())/\(c=0↔qst ns es i):=fun i=>by
  by_cases hi:i<es.length
  ·obtain⟨c,h⟩:=qFD (N:=N) hN hi he hn hok;exact⟨c,fun _=>h⟩
  ·exact⟨0,fun h=>absurd h hi⟩
 obtain⟨ec,hec⟩:=Classical.axiomOfChoice eq'
 have b13:∀ (K:_->Option qg) (i:Nat),i<es.length->∀ kn,qdY N K (ns.length:Int) ns es 0 0 (i:Int) (backE ((ns.length:Int),ns,es,(0:Int),(0:Int)) kn) =
   if ec i=0 then kn ((i:Int)+1) else some ((ec i,(i:Int)),()):=fun K i hi kn=>by
  simp only [qdY,lt_d hi,cond_true,(hec i hi).1,Option.bind_some,hix i (by omega),qB]
  by_cases q:ec i=0
  ·rw [zH q,q,bne_self_eq_false];rfl
  ·rw [zJ q,show (ec i != 0)=true from bne_iff_ne.2 q];rfl
 by_cases h4:∃ i,i<es.length/\¬ ec i=0
 ·refine qiK (n:=es.length) (N:=N) (fun o=>∃ c p:Int,o=some ((c,p),())/\(c=0↔GrOk ns es)) (fun i=>some ((ec i,(i:Int)),())) (fun i=>¬ ec i=0) (by omega) h4 (fun i hi hb kn=>by rw [b13 _ i hi,zJ hb]) (fun i hi hb kn=>by rw [b13 _ i hi,zH (Decidable.not_not.1 hb)]) (fun i hi hb=>?_)
  exact⟨ec i,i,rfl,⟨fun h=>absurd h hb,fun h=>absurd ((hec i hi).2.2 (h.edges i hi)) hb⟩⟩
 have hed:∀ i,i<es.length->qst ns es i:=fun i hi=>(hec i hi).2.1 (Decidable.not_not.1 fun h=>h4 ⟨i,hi,h⟩)
 rw [qce (n:=es.length) (N:=N) (by omega) (fun i hi kn=>by rw [b13 _ i hi,zH (Decidable.not_not.1 fun h=>h4 ⟨i,hi,h⟩)]) (fun kn=>by simp only [qdY,qaE,cond_false];rfl) (by omega)]
 simp only [qjt,joinD,loopE]
 have b11:∀ (K:_->Option qg) (i:Nat),i<ns.length->∀ kn,qdZ N K (ns.length:Int) ns es 0 0 (i:Int) (backE ((ns.length:Int),ns,es,(0:Int),(0:Int)) kn) =
   if prt (nth z5 ns i)<=cnt es i then kn ((i:Int)+1) else some ((5,(i:Int)),()):=fun K i hi kn=>by
  simp only [qdZ,lt_d hi,cond_true,joinD]
  rw [qFN hN he]
  simp only [qkC,lt_d hi,ge0_d,Int.toNat_natCast,Bool.and_self,cond_true,nd_eta,qAf N (nth z5 ns i),Option.bind_some,qkD,hix i (by omega),qB]
  by_cases q:prt (nth z5 ns i)<=cnt es i
  ·rw [zH q,qo (show ¬ ((cnt es i:Nat):Int)<prt (nth z5 ns i) by omega)];rfl
  ·rw [zJ q,qi (show ((cnt es i:Nat):Int)<prt (nth z5 ns i) by omega)];rfl
 by_cases h5:∃ i,i<ns.length/\¬ prt (nth z5 ns i)<=cnt es i
 ·refine qiK (n:=ns.length) (N:=N) (fun o=>∃ c p:Int,o=some ((c,p),())/\(c=0↔GrOk ns es)) (fun i=>some (((5:Int),(i:Int)),())) (fun i=>¬ prt (nth z5 ns i)<=cnt es i) (by omega) h5 (fun i hi hb kn=>by rw [b11 _ i hi,zJ hb]) (fun i hi hb kn=>by rw [b11 _ i hi,zH (Decidable.not_not.1 hb)]) (fun i hi hb=>?_)
  exact⟨5,i,rfl,by simp;intro h;exact hb (h.ports i hi)⟩
 have hpo:∀ i,i<ns.length->prt (nth z5 ns i)<=cnt es i:=fun i hi=>Decidable.not_not.1 fun h=>h5 ⟨i,hi,h⟩
 rw [qce (n:=ns.length) (N:=N) (by omega) (fun i hi kn=>by rw [b11 _ i hi,zH (hpo i hi)]) (fun kn=>by simp only [qdZ,qaE,cond_false];rfl) (by omega)]
 simp only [qkE,joinD,loopE]
 have hv:∀ x∈es,0<=x.1/\x.1<ns.length/\0<=x.2.1/\x.2.1<ns.length:=fun x hx=>by
  obtain⟨i,hi,rfl⟩:=mem_nth (z:=z3) hx
  have:=hed i hi
  exact⟨this.f0,this.fn,this.t0,this.tn⟩
 obtain⟨W,hW⟩:=Classical.axiomOfChoice fun f=>qEp (N:=N) hN hn he hv f
 obtain⟨s',hI,e⟩:=qrx (g:=fun (s:Int×List (List Bool)) kn=>qeS N (fun s=>qeT N s.1 s.2.1 s.2.2.1 s.2.2.2.1 s.2.2.2.2.1 s.2.2.2.2.2) (ns.length:Int) ns es 0 0 s.1 s.2 (backE ((ns.length:Int),ns,es,(0:Int),(0:Int)) kn))
  (k:=fun s:Int×List (List Bool)=>qeT N (ns.length:Int) ns es 0 0 s.2) 4 (fun i s=>s.1=(i:Int)+1/\s.2=(List.range i).map fun j:Nat=>W ((j:Int)+1)) (N:=N) (s:=((1:Int),([]:List (List Bool))))
  (by
   rintro i ⟨_,_⟩ hi ⟨rfl,rfl⟩
   refine⟨((i:Int)+1+1,(List.range i).map (fun j:Nat=>W ((j:Int)+1)) ++ [W ((i:Int)+1)]),⟨by simp,by simp [zCI]⟩,fun kn=>?_⟩
   simp only [qeS,(hW _).1,Option.bind_some,qB,zi,zAY,zg]
   rw [qi (show (i:Int)+1<=4 by omega),qi (show (i+1)*24<=140737488355328 by omega),w64 (n:=(i:Int)+1+1) (by omega) (by omega)];rfl)
  (by
   rintro⟨_,_⟩ ⟨rfl,rfl⟩ kn
   simp only [qeS]
   rw [qo (show ¬ (((4:Nat):Int)+1<=4) by omega)];rfl)
  (by omega) ⟨rfl,rfl⟩
 rw [e,hI.2]
 generalize hways:(List.range 4).map (fun j:Nat=>W ((j:Int)+1))=ways
 have hwl:ways.length=4:=by rw [<- hways];simp
 have hwn:∀ d:Int,1<=d->d<=4->nth ([]:List Bool) ways (d.toNat - 1)=W d:=fun d h1 h4=>by
  rw [qcD (show d.toNat - 1<ways.length by omega)]
  subst hways
  simp only [List.getElem_map,zBt]
  congr 1
  omega
 simp only [qeT,joinD,loopE]
 have hdeep:∀ j,j<ns.length->1<=qaw ns j/\qaw ns j<=4:=fun j hj=>by
  have:=qdn.1 (hoki j hj)
  exact⟨this.1,this.2.1⟩
 have b3:∀ (K:_->Option qg) (i j:Nat),i<ns.length->j<ns.length->∀ kn,qeV N K (ns.length:Int) (i:Int) ns es 0 0 ways (j:Int) (backE ((ns.length:Int),(i:Int),ns,es,(0:Int),(0:Int),ways) kn) =
   if RW ns.length (W (qaw ns j)) i j/\RW ns.length (W (qaw ns j)) j i then some ((9,(i:Int)),()) else kn ((j:Int)+1):=fun K i j hi hj kn=>by
  obtain⟨d1,d4⟩:=hdeep j hj
  have hl:=(hW (qaw ns j)).2.1
  have l1:=lt_d (show i*ns.length+j<(W (qaw ns j)).length by rw [hl];exact qrJ hi hj)
  have l2:=lt_d (show j*ns.length+i<(W (qaw ns j)).length by rw [hl];exact qrJ hj hi)
  have l3:=lt_d (show (qaw ns j).toNat - 1<ways.length by omega)
  have e3:IntKind.i64.wrap (qaw ns j - 1)=(((qaw ns j).toNat - 1:Nat):Int):=w3 d1 d4
  have e4:(nth ((0:Int),(0:Int),(0:Int),(0:Int),(0:Int)) ns j).2.1=qaw ns j:=rfl
  simp only [qeV,lt_d hj,ge0_d,Int.toNat_natCast,Bool.and_self,cond_true,e4,e3,l3,hwn _ d1 d4,idx_w hn hi hj,idx_w hn hj hi,l1,l2,hix j (by omega),qB]
  cases q1:nth false (W (qaw ns j)) (i*ns.length+j) with
  | false=>rw [cond_false,zJ (fun h=>by have:=h.1;unfold RW at this;rw [q1] at this;cases this)]
  | true=>
   cases q2:nth false (W (qaw ns j)) (j*ns.length+i) with
   | false=>rw [cond_true,cond_false,zJ (fun h=>by have:=h.2;unfold RW at this;rw [q2] at this;cases this)]
   | true=>rw [cond_true,cond_true,zH ⟨q1,q2⟩]
 have b4:∀ (K:_->Option qg) (i:Nat),i<ns.length->∀ kn,qeU N K (ns.length:Int) ns es 0 0 ways (i:Int) (backE ((ns.length:Int),ns,es,(0:Int),(0:Int),ways) kn) =
   open Classical in if ∃ j,j<ns.length/\RW ns.length (W (qaw ns j)) i j/\RW ns.length (W (qaw ns j)) j i then some ((9,(i:Int)),()) else kn ((i:Int)+1):=fun K i hi kn=>by
  simp only [qeU,lt_d hi,cond_true,joinD,loopE]
  by_cases q:∃ j,j<ns.length/\RW ns.length (W (qaw ns j)) i j/\RW ns.length (W (qaw ns j)) j i
  ·rw [zH q]
   exact qhY (n:=ns.length) (by omega) (fun j=>RW ns.length (W (qaw ns j)) i j/\RW ns.length (W (qaw ns j)) j i) (fun j hj hb kn=>by rw [b3 _ i j hi hj,zH hb]) (fun j hj hb kn=>by rw [b3 _ i j hi hj,zJ hb]) (by omega) q
  ·rw [zJ q]
   refine qce (n:=ns.length) (by omega) (fun j hj kn=>by rw [b3 _ i j hi hj,zJ (fun h=>q ⟨j,hj,h⟩)]) (fun kn=>?_) (by omega)
   simp only [qeV,qaE,cond_false,qkF,hix i (by omega),qB]
 have hR:∀ i j,i<ns.length->j<ns.length->(RW ns.length (W (qaw ns j)) i j/\RW ns.length (W (qaw ns j)) j i↔Pk (EdG ns es (qaw ns j)) ns.length i j/\Pk (EdG ns es (qaw ns j)) ns.length j i):=fun i j hi hj=>by
  rw [(hW (qaw ns j)).2.2 i j hi hj,(hW (qaw ns j)).2.2 j i hj hi]
 by_cases h6:∃ i,i<ns.length/\∃ j,j<ns.length/\RW ns.length (W (qaw ns j)) i j/\RW ns.length (W (qaw ns j)) j i
 ·refine qiK (n:=ns.length) (N:=N) (fun o=>∃ c p:Int,o=some ((c,p),())/\(c=0↔GrOk ns es)) (fun i=>some (((9:Int),(i:Int)),())) (fun i=>∃ j,j<ns.length/\RW ns.length (W (qaw ns j)) i j/\RW ns.length (W (qaw ns j)) j i) (by omega) h6 (fun i hi hb kn=>by rw [b4 _ i hi,zH hb]) (fun i hi hb kn=>by rw [b4 _ i hi,zJ hb]) (fun i hi hb=>?_)
  obtain⟨j,hj,hb⟩:=hb
  exact⟨9,i,rfl,by simp;intro h;exact h.rings i j hi hj ((hR i j hi hj).1 hb)⟩
 ·refine⟨0,0,?_,⟨fun _=>⟨hn,he,hok,hed,hpo,fun i j hi hj h=>h6 ⟨i,hi,j,hj,(hR i j hi hj).2 h⟩⟩,fun _=>rfl⟩⟩
  exact qce (n:=ns.length) (by omega) (fun i hi kn=>by rw [b4 _ i hi,zJ (fun h=>h6 ⟨i,hi,h⟩)]) (fun kn=>by simp only [qeU,qaE,cond_false,qkG]) (by omega)
end
end Go.Proofs.YtgnnhemoocfclaaGreatDoor.Gh
