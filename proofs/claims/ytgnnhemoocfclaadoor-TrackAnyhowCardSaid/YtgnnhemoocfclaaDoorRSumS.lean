import Derived.Test.YtgnnhemoocfclaaDoorRTimS
import Derived.Test.YtgnnhemoocfclaaDoorRSum
import Derived.Test.YtgnnhemoocfclaaDoorSummP
namespace Go.Proofs.YtgnnhemoocfclaaDoor.Rea
open Go.Abs
open Go.Smy (Sm qw qcz qay qy qce qlk qja qaH leqP qaJ thenS lastOf qaI qV)
abbrev Tr:=Int×Int×List Int
def sm(x:Tr):Sm:=⟨x.1,x.2.1,x.2.2⟩
theorem nthI(xs:List Int)(i:Nat):Go.Smy.nth xs i=nth 0 xs i:=rfl
theorem qjC(N:Nat)(x:Int):qaq N (x,())=some (!qay x,()):=by
 simp only [qaq,qhv,qay]
 by_cases h:x<0
 ·rw [qK (show ¬ x>=0 by omega),qA h];rfl
 ·rw [qA (show x>=0 by omega),qK h,cond_true,Bool.false_or]
  by_cases h':1048576<x
  ·rw [qK (show ¬ x<=1048576 by omega),qA h'];rfl
  ·rw [qA (show x<=1048576 by omega),qK h'];rfl
theorem qxD{xs:List Int}:xs.any qay=true↔∃ i,i<xs.length/\qay (nth 0 xs i)=true:=by
 rw [zBG]
 constructor
 ·rintro⟨x,hx,h⟩
  obtain⟨i,hi,rfl⟩:=mem_nth (z:=(0:Int)) hx
  exact⟨i,hi,h⟩
 ·rintro⟨i,hi,h⟩
  exact⟨_,qbI hi,h⟩
theorem qkw{N:Nat}(hN:200000000<=N)(s:Tr)(n:Int):qaF N (s,n,())=some (qw (sm s) n,()):=by
 obtain⟨k,a,p⟩:=s
 simp only [qaF,qhL,joinD]
 by_cases h1:n<1
 ·rw [qA h1,cond_true,qce (.inl h1)];rfl
 by_cases h2:n>4
 ·rw [qK h1,cond_false,qA h2,cond_true,qce (.inr (.inl h2))];rfl
 by_cases h3:k<1
 ·rw [qK h1,cond_false,qK h2,cond_false,qA h3,cond_true,qce (.inr (.inr (.inl h3)))];rfl
 by_cases h4:k>n
 ·rw [qK h1,cond_false,qK h2,cond_false,qK h3,cond_false,qA h4,cond_true,qce (.inr (.inr (.inr (.inl h4))))];rfl
 rw [qK h1,cond_false,qK h2,cond_false,qK h3,cond_false,qK h4,cond_false,w64 (show _<=4 - k by omega) (by omega)]
 by_cases h5:(p.length:Int)>4 - k
 ·rw [qA h5,qce (.inr (.inr (.inr (.inr h5))))];rfl
 rw [qK h5]
 have hl:¬ qcz (sm (k,a,p)) n:=by unfold qcz sm;simp only;omega
 simp only [qhM,cond_false,joinD,loopE]
 rw [qA (show (([a]:List Int).length+p.length)*8<=140737488355328 by simp only [zg];omega),show Nat.ble 1 8=true from rfl,Bool.and_self,cond_true]
 have hlen:([a]++p).length<=5:=by simp;omega
 have hbody:∀ i,i<([a]++p).length->∀ kn,qdy N (fun _=>qfg N) (([a]++p).length:Int) k a p ([a]++p) (i:Int) (backE ((([a]++p).length:Int),k,a,p,[a]++p) kn) =
   if qay (nth 0 ([a]++p) i)=true then some (2,()) else kn ((i:Int)+1):=fun i hi kn=>by
  simp only [qdy,lt_d hi,ge0_d,Bool.and_self,cond_true,Int.toNat_natCast,qjC N (nth 0 ([a]++p) i),Option.bind_some,qU,ix1 hi (by omega),Bool.not_not]
  cases qay (nth 0 ([a]++p) i) <;> rfl
 cases hb:([a]++p).any qay with
 | true=>
  rw [qlk hl hb]
  obtain⟨i,hi,hx⟩:=qxD.1 hb
  exact qjX (n:=([a]++p).length) (by omega) (fun i=>qay (nth 0 ([a]++p) i)=true) (fun i hi hb kn=>by rw [hbody i hi,zH hb]) (fun i hi hb kn=>by rw [hbody i hi,zK hb]) (by omega) ⟨i,hi,hx⟩
 | false=>
  rw [qja hl hb]
  refine qdX (n:=([a]++p).length) (by omega) (fun i hi kn=>by rw [hbody i hi,zK fun hx=>by have:=qxD.2 ⟨i,hi,hx⟩;rw [hb] at this;cases this]) (fun kn=>?_) (by omega)
  simp only [qdy,qbr,cond_false,qfg]
structure SOk (s:Tr):Prop where
 k1:1<=s.1
 k4:s.1+s.2.2.length<=4
theorem sok{s:Tr}{n:Int}(h:qw (sm s) n=0):SOk s:=by
 obtain⟨-,-,a3,-,a5,-,-⟩:=qy.1 h
 exact⟨a3,a5⟩
theorem qqL{N:Nat}{s:Tr}(h:SOk s):qaM N (s,())=some (s.1+s.2.2.length,()):=by
 have:=h.k1
 have:=h.k4
 simp only [qaM,qjF]
 rw [w64 (by omega) (by omega)]
def pls(s:Tr):List (Int×Bool):=(List.replicate s.1.toNat ((0:Int),true)).set (s.1.toNat - 1) (s.2.1,true)++s.2.2.map fun x=>(x,false)
theorem qzc{α:Type}(t f:α)(i m:Nat):(List.replicate i t++List.replicate (m+1) f).set i t=List.replicate (i+1) t++List.replicate m f:=by
 rw [List.set_append_right _ _ (by simp),zBY,zBD,List.replicate_succ,List.set_cons_zero,List.replicate_succ',zU];rfl
theorem qry{N:Nat}(hN:200000000<=N){s:Tr}(h:SOk s):qbh N (s,())=some (pls s):=by
 have h1:=h.k1
 have h4:=h.k4
 obtain⟨k,a,p⟩:=s
 simp only at h1 h4
 obtain⟨K,rfl⟩:∃ K:Nat,k=(K:Int):=⟨k.toNat,by omega⟩
 have eK:((K:Int)).toNat=K:=Int.toNat_natCast K
 simp only [qbh,qhw,qqL h,Option.bind_some,joinD,loopE]
 rw [qA (show (0:Int)<=(K:Int) by omega),qA (show (K:Int)<=(K:Int)+(p.length:Int) by omega),qA (show ((K:Int)+(p.length:Int))*16<=281474976710656 by omega)]
 simp only [Bool.and_self,cond_true,eK,zBY]
 have e0:List.replicate K ((0:Int),false)=List.replicate 0 ((0:Int),true)++List.replicate (K - 0) ((0:Int),false):=rfl
 rw [e0]
 refine qcA (g:=fun (s:Int×List (Int×Bool)) kn=>qdb N (fun s=>qeD N s.1 s.2.1 s.2.2.1 s.2.2.2) (K:Int) (K:Int) a p s.1 s.2 (backE ((K:Int),(K:Int),a,p) kn)) K
  (fun i=>((i:Int),List.replicate i ((0:Int),true)++List.replicate (K - i) ((0:Int),false))) (fun i hi kn=>?_) (fun kn=>?_) (by omega)
 ·have hlen:(List.replicate i ((0:Int),true)++List.replicate (K - i) ((0:Int),false)).length=K:=by simp;omega
  have hn:nth ((0:Int),false) (List.replicate i ((0:Int),true)++List.replicate (K - i) ((0:Int),false)) i=(0,false):=by
   obtain⟨m,hm⟩:∃ m,K - i=m+1:=⟨K - i - 1,by omega⟩
   rw [hm,qcU (by simp),List.getElem_append_right (by simp)]
   simp
  simp only [qdb,hlen,lt_d hi,ge0_d,Bool.and_self,cond_true,Int.toNat_natCast,hn,qU,ix1 hi (by omega)]
  obtain⟨m,hm⟩:∃ m,K - i=m+1:=⟨K - i - 1,by omega⟩
  rw [hm,qzc,show K - (i+1)=m by omega];rfl
 ·simp only [qdb,qbr,cond_false,zBD,List.replicate_zero,List.append_nil,qeD,zBY,joinD,loopE]
  have w1:IntKind.i64.wrap ((K:Int) - 1)=((K - 1:Nat):Int):=by rw [w64 (by omega) (by omega)];omega
  have hn:nth ((0:Int),false) (List.replicate K ((0:Int),true)) (K - 1)=(0,true):=by
   rw [qcU (by simp;omega)];simp
  rw [w1,qA (show (0:Int)<=((K - 1:Nat):Int) by omega),qA (show ((K - 1:Nat):Int)<(K:Int) by omega)]
  simp only [Bool.and_self,cond_true,Int.toNat_natCast,hn]
  have hpl:pls ((K:Int),a,p)=(List.replicate K ((0:Int),true)).set (K - 1) (a,true)++p.map fun x=>(x,false):=rfl
  rw [hpl]
  have hb:(List.replicate K ((0:Int),true)).set (K - 1) (a,true)=(List.replicate K ((0:Int),true)).set (K - 1) (a,true)++((p.take 0).map fun x=>(x,false)):=by simp
  conv=>lhs;rw [hb]
  refine qcA (g:=fun (s:Int×List (Int×Bool)) kn=>qdc N (fun s=>qeE N s.2.2.2) p (p.length:Int) (K:Int) a p s.1 s.2 (backE (p,(p.length:Int),(K:Int),a,p) kn)) p.length
   (fun i=>((i:Int),(List.replicate K ((0:Int),true)).set (K - 1) (a,true)++((p.take i).map fun x=>(x,false)))) (fun i hi kn=>?_) (fun kn=>?_) (by omega)
  ·simp only [qdc,lt_d hi,ge0_d,Bool.and_self,cond_true,Int.toNat_natCast]
   rw [qA (show (((List.replicate K ((0:Int),true)).set (K - 1) (a,true)++((p.take i).map fun x=>(x,false))).length + [(nth 0 p i,false)].length)*16<=140737488355328 by simp;omega),show Nat.ble 1 16=true from rfl]
   simp only [Bool.and_self,cond_true,qU,ix1 hi (by omega),zU]
   rw [show (p.take (i+1)).map (fun x=>(x,false))=(p.take i).map (fun x=>(x,false)) ++ [(nth 0 p i,false)] by rw [zAD hi,zAk,qcU hi];rfl]
   rfl
  ·simp only [qdc,qbr,cond_false,qeE,zAW]
theorem qsY{s:Tr}(h:SOk s):(pls s).length=(s.1+s.2.2.length).toNat:=by
 have:=h.k1
 simp [pls];omega
theorem qvZ{s:Tr}(h:SOk s){i:Nat}(hi:i<(pls s).length):nth ((0:Int),false) (pls s) i=(qaH (sm s) i,decide ((i:Int)<s.1)):=by
 have h1:=h.k1
 have hl:=qsY h
 have hr:((List.replicate s.1.toNat ((0:Int),true)).set (s.1.toNat - 1) (s.2.1,true)).length=s.1.toNat:=by simp
 show Go.Smy.nth (pls s) i=_
 unfold pls qaH sm
 simp only
 by_cases c:s.1<=(i:Int)
 ·rw [Go.Smy.nth_append_right _ _ _ (by omega),hr,zH c,qK (by omega),Go.Smy.nth_map _ _ _ (by omega),show i - s.1.toNat=((i:Int) - s.1).toNat by omega]
 ·rw [Go.Smy.nth_append_left _ _ _ (by omega),zK c,qA (by omega),Go.Smy.nth_set]
  by_cases c':s.1.toNat - 1=i
  ·rw [zH ⟨c',by simp;omega⟩,zH (by omega)]
  ·rw [zK fun h=>c' h.1,zK (by omega),Go.Smy.nth_eq _ _ (by simp;omega)];simp
noncomputable def leqS(s r:Tr):Bool:=@decide (leqP (sm s) (sm r)) (Classical.propDecidable _)
theorem qiu{s r:Tr}:leqS s r=true↔leqP (sm s) (sm r):=by unfold leqS;exact @decide_eq_true_iff _ (Classical.propDecidable _)
theorem qqk{s r:Tr}(h:¬ leqP (sm s) (sm r)):leqS s r=false:=by unfold leqS;exact @zBB _ (Classical.propDecidable _) h
theorem qjZ{s r:Tr}(h:leqP (sm s) (sm r)):leqS s r=true:=qiu.2 h
theorem qqM{N:Nat}(hN:200000000<=N)(s r:Tr):qbz N (s,r,())=some (leqS s r,()):=by
 simp only [qbz,qjG,qkw hN (s.1,s.2.1,s.2.2) 4,qkw hN (r.1,r.2.1,r.2.2) 4,Option.bind_some]
 by_cases c1:qw (sm s) 4=0
 case neg=>rw [show (qw (sm (s.1,s.2.1,s.2.2)) 4 != 0)=true from bne_iff_ne.2 c1,cond_true,qqk fun h=>c1 h.1]
 rw [show (qw (sm (s.1,s.2.1,s.2.2)) 4 != 0)=false from by rw [show qw (sm (s.1,s.2.1,s.2.2)) 4=0 from c1];rfl,cond_false]
 by_cases c2:qw (sm r) 4=0
 case neg=>rw [show (qw (sm (r.1,r.2.1,r.2.2)) 4 != 0)=true from bne_iff_ne.2 c2,cond_true,qqk fun h=>c2 h.2.1]
 rw [show (qw (sm (r.1,r.2.1,r.2.2)) 4 != 0)=false from by rw [show qw (sm (r.1,r.2.1,r.2.2)) 4=0 from c2];rfl,cond_false]
 have o1:=sok c1
 have o2:=sok c2
 rw [qqL (s:=(s.1,s.2.1,s.2.2)) o1,qqL (s:=(r.1,r.2.1,r.2.2)) o2,qry hN (s:=(s.1,s.2.1,s.2.2)) o1,qry hN (s:=(r.1,r.2.1,r.2.2)) o2]
 simp only [Option.bind_some,Option.map_some]
 by_cases c3:s.1+(s.2.2.length:Int)=r.1+(r.2.2.length:Int)
 case neg=>rw [show (s.1+(s.2.2.length:Int) != r.1+(r.2.2.length:Int))=true from bne_iff_ne.2 c3,cond_true,qqk fun h=>c3 h.2.2.1]
 rw [show (s.1+(s.2.2.length:Int) != r.1+(r.2.2.length:Int))=false from by rw [c3];exact bne_self_eq_false _,cond_false]
 have l1:=qsY o1
 have l2:=qsY o2
 have k1:=o1.k1
 have k4:=o1.k4
 simp only [joinD,loopE,show pls (s.1,s.2.1,s.2.2)=pls s from rfl,show pls (r.1,r.2.1,r.2.2)=pls r from rfl]
 have hbody:∀ i,i<(pls s).length->∀ kn,qeO N (fun _=>qgV N) (pls s) (pls r) ((pls s).length:Int) s.1 s.2.1 s.2.2 r.1 r.2.1 r.2.2 (i:Int) (backE (pls s,pls r,((pls s).length:Int),s.1,s.2.1,s.2.2,r.1,r.2.1,r.2.2) kn) =
   if ¬ (qaH (sm s) i<=qaH (sm r) i/\((i:Int)<s.1->(i:Int)<r.1)) then some (false,()) else kn ((i:Int)+1):=fun i hi kn=>by
  simp only [qeO,joinD,lt_d hi,lt_d (show i<(pls r).length by omega),ge0_d,Bool.and_self,cond_true,Int.toNat_natCast,qvZ o1 hi,qvZ o2 (show i<(pls r).length by omega),qjH,qU,ix1 hi (by omega)]
  by_cases b1:qaH (sm s) i>qaH (sm r) i
  ·rw [qA b1,cond_true,zH fun h=>by omega]
  ·rw [qK b1,cond_false]
   by_cases b2:(i:Int)<s.1
   ·rw [qA b2,cond_true]
    by_cases b3:(i:Int)<r.1
    ·rw [qA b3,zK fun h=>h ⟨by omega,fun _=>b3⟩];rfl
    ·rw [qK b3,zH fun h=>b3 (h.2 b2)];rfl
   ·rw [qK b2,zK fun h=>h ⟨by omega,fun h=>absurd h b2⟩];rfl
 by_cases hall:leqP (sm s) (sm r)
 ·rw [qjZ hall]
  refine qdX (n:=(pls s).length) (by omega) (fun i hi kn=>by rw [hbody i hi,zK fun h=>h (hall.2.2.2 i (by show (i:Int)<s.1+(s.2.2.length:Int);omega))]) (fun kn=>?_) (by omega)
  simp only [qeO,qbr,cond_false,qgV]
 ·rw [qqk hall]
  have hex:∃ i,i<(pls s).length/\¬ (qaH (sm s) i<=qaH (sm r) i/\((i:Int)<s.1->(i:Int)<r.1)):=Classical.byContradiction fun hn=>hall ⟨c1,c2,c3,fun i hi=>Classical.byContradiction fun hb=>hn ⟨i,by have:(i:Int)<s.1+(s.2.2.length:Int):=hi;omega,hb⟩⟩
  exact qjX (n:=(pls s).length) (by omega) (fun i=>¬ (qaH (sm s) i<=qaH (sm r) i/\((i:Int)<s.1->(i:Int)<r.1))) (fun i hi hb kn=>by rw [hbody i hi,zH hb]) (fun i hi hb kn=>by rw [hbody i hi,zK hb]) (by omega) hex
theorem qjo{R S:Type}{g:S->(S->Option R)->Option R}(Q:Option R->Prop)(n:Nat)(I:Nat->S->Prop)(h2:∀ i s,i<n->I i s->∀ kn,(∀ s',I (i+1) s'->Q (kn s'))->Q (g s kn))
  (h3:∀ s,I n s->∀ kn,Q (g s kn)) {N:Nat} (hN:n<N) {s:S} (h0:I 0 s):Q (loopD g N s):=by
 have key:∀ j i s M,i+j=n->I i s->j<M->Q (loopD g M s):=by
  intro j
  induction j with
  | zero=>
   rintro i s (_ | M) hi hI hM
   ·omega
   ·show Q (g s (loopD g M));exact h3 s (by rw [<- hi];exact hI) _
  | succ j ih=>
   rintro i s (_ | M) hi hI hM
   ·omega
   ·show Q (g s (loopD g M))
    exact h2 i s (by omega) hI _ fun s' hs'=>ih (i+1) s' M (by omega) hs' (by omega)
 exact key n 0 s N (by omega) h0 hN
theorem nth3(xs:List Tr)(i:Nat):((nth ((0:Int),((0:Int),([]:List Int))) xs i).1,(nth ((0:Int),((0:Int),([]:List Int))) xs i).2.1,(nth ((0:Int),((0:Int),([]:List Int))) xs i).2.2)=nth ((0:Int),((0:Int),([]:List Int))) xs i:=rfl
abbrev z3:Tr:=((0:Int),((0:Int),([]:List Int)))
theorem qwE{s:Sm}(h:qw s 4=0):leqP s s:=⟨h,h,rfl,fun _ _=>⟨zAR _,fun h=>h⟩⟩
theorem qvc{s r q:Sm}(h:leqP s r)(k:leqP r q):leqP s q:=
 ⟨h.1,k.2.1,h.2.2.1.trans k.2.2.1,fun i hi=>⟨Int.le_trans (h.2.2.2 i hi).1 (k.2.2.2 i (by have:=h.2.2.1;omega)).1,fun hk=>(k.2.2.2 i (by have:=h.2.2.1;omega)).2 ((h.2.2.2 i hi).2 hk)⟩⟩
theorem qrN{s r:Sm}(h:leqP s r):s.keep<=r.keep:=by
 obtain⟨-,-,a3,-,a5,-,-⟩:=qy.1 h.1
 have:=(h.2.2.2 (s.keep - 1).toNat (by omega)).2 (by omega)
 omega
theorem qwF{s r:Sm}(h:leqP s r)(k:leqP r s):s=r:=by
 have hk:s.keep=r.keep:=by have:=qrN h;have:=qrN k;omega
 obtain⟨-,-,a3,-,a5,-,-⟩:=qy.1 h.1
 have ho:=h.2.2.1
 have hp:∀ i:Nat,(i:Int)<s.keep+s.push.length->qaH s i=qaH r i:=fun i hi=>by
  have h1:=(h.2.2.2 i hi).1
  have h2:=(k.2.2.2 i (by omega)).1
  omega
 have ha:s.add=r.add:=by
  have:=hp (s.keep - 1).toNat (by omega)
  rwa [qV (by omega),qV (by omega)] at this
 have hpu:s.push=r.push:=by
  refine Go.Smy.nth_ext (by omega) fun i hi=>?_
  have:=hp (s.keep+i).toNat (by omega)
  rw [qaI (by omega),qaI (by omega)] at this
  rwa [show ((((s.keep+i).toNat:Nat):Int) - s.keep).toNat=i by omega,show ((((s.keep+i).toNat:Nat):Int) - r.keep).toNat=i by omega] at this
 cases s;cases r
 simp only at hk ha hpu
 subst hk;subst ha;subst hpu
 rfl
theorem qmY{s:Tr}(h:qw (sm s) 4=0):leqS s s=true:=qjZ (qwE h)
theorem qgH{s r q:Tr}(h:leqS s r=true)(k:leqS r q=true):leqS s q=true:=qjZ (qvc (qiu.1 h) (qiu.1 k))
theorem qwD{s r:Tr}(h:leqS s r=true)(k:leqS r s=true):s=r:=by
 have:=qwF (qiu.1 h) (qiu.1 k)
 have h1:=congrArg Sm.keep this
 have h2:=congrArg Sm.add this
 have h3:=congrArg Sm.push this
 simp only [sm] at h1 h2 h3
 exact Prod.ext h1 (Prod.ext h2 h3)
def sl(s:Tr):List Int:=s.1 :: s.2.1 :: s.2.2
theorem qtQ{s r:Tr}(h:sl s=sl r):s=r:=by
 simp only [sl,zAF] at h
 exact Prod.ext h.1 (Prod.ext h.2.1 h.2.2)
abbrev cmpS(s r:Tr):Int:=lexc (sl s) (sl r)
theorem qAj{N:Nat}(hN:10<=N)(a b c:Int):qbl N ([a,b,c],())=some (if a=0 then (if b=0 then c else b) else a,()):=by
 simp only [qbl,qig,joinD,loopE]
 have hb:∀ i:Nat,i<3->∀ kn,qdt N (fun _s=>qeA N _s) 0 [a,b,c] (([a,b,c]:List Int).length:Int) (i:Int) (backE ((0:Int),[a,b,c],(([a,b,c]:List Int).length:Int)) kn)=if nth 0 [a,b,c] i=0 then kn ((i:Int)+1) else some (nth 0 [a,b,c] i,()):=fun i hi kn=>by
  simp only [qdt,lt_d (show i<([a,b,c]:List Int).length from hi),ge0_d,Int.toNat_natCast,Bool.and_self,cond_true,ix1 hi (by omega),qU]
  by_cases q:nth 0 [a,b,c] i=0
  ·rw [zH q,q,bne_self_eq_false];rfl
  ·rw [zK q,show (nth 0 [a,b,c] i != 0)=true from bne_iff_ne.2 q];rfl
 obtain⟨M,rfl⟩:∃ M,N=M+4:=⟨N - 4,by omega⟩
 have e0:=hb 0 (by omega)
 have e1:=hb 1 (by omega)
 have e2:=hb 2 (by omega)
 simp only [loopD]
 refine (e0 _).trans ?_
 have n0:nth 0 [a,b,c] 0=a:=rfl
 have n1:nth 0 [a,b,c] 1=b:=rfl
 have n2:nth 0 [a,b,c] 2=c:=rfl
 rw [n0]
 by_cases ha:a=0
 ·rw [zH ha,zH ha]
  refine (e1 _).trans ?_
  rw [n1]
  by_cases hb':b=0
  ·rw [zH hb',zH hb']
   refine (e2 _).trans ?_
   rw [n2]
   by_cases hc:c=0
   ·rw [zH hc,hc];rfl
   ·rw [zK hc]
  ·rw [zK hb',zK hb']
 ·rw [zK ha,zK ha]
theorem qnR{N:Nat}(hN:200000000<=N){s:Tr}(h:s.2.2.length<=4)(r:Tr):qai N (s,r,())=some (cmpS s r,()):=by
 simp only [qai,qgw,quN N s.1 r.1,quN N s.2.1 r.2.1,qpy h hN,Option.bind_some,qAj (show 10<=N by omega)]
 unfold cmpS sl
 simp only [lexc]
 congr 2
 by_cases c1:s.1<r.1
 ·simp [c1]
 ·by_cases c2:r.1<s.1
  ·simp [c1,c2]
  ·by_cases c3:s.2.1<r.2.1
   ·simp [c1,c2,c3]
   ·by_cases c4:r.2.1<s.2.1 <;> simp [c1,c2,c3,c4]
theorem qAg(xs:List Tr)(h:xs.length<4611686018427387904):SortOk (fun p q=>some (cmpS p q)) xs where
 lt:=h
 tot:=fun a _ b _=>⟨_,rfl⟩
 irrefl:=fun a _=>by show decide (lexc (sl a) (sl a)<0)=false;rw [qhZ];rfl
 trans:=fun a _ b _ c _ h1 h2=>decide_eq_true (qkP (zl h1) (zl h2))
 anti:=fun a _ b _ h1 h2=>qtQ (qwB (zAn h1) (zAn h2))
def RiseS(f:List Tr):Prop:=f.Pairwise fun a b=>cmpS a b<0
theorem RiseS.nodup{f:List Tr}(h:RiseS f):f.Nodup:=h.imp fun {a b} h e=>by subst e;unfold cmpS at h;rw [qhZ] at h;omega
open Classical in
noncomputable def cpt(xs:List Tr):Nat->List Tr
 | 0=>[]
 | n+1=>if 0<n/\nth z3 xs n=nth z3 xs (n - 1) then cpt xs n else cpt xs n ++ [nth z3 xs n]
theorem qxl(xs:List Tr):∀ n,(cpt xs n).length<=n
 | 0=>Nat.le_refl _
 | n+1=>by
  have:=qxl xs n
  rw [cpt]
  split
  ·omega
  ·rw [zS,zg];omega
theorem qqF{xs:List Tr}:∀ n,∀ x,x∈cpt xs n↔∃ i,i<n/\nth z3 xs i=x
 | 0,x=>⟨fun h=>(by cases h),fun ⟨i,h,_⟩=>(by omega)⟩
 | n+1,x=>by
  rw [cpt]
  split
  ·rename_i q
   rw [qqF n x]
   refine⟨fun ⟨i,h1,h2⟩=>⟨i,by omega,h2⟩,fun ⟨i,h1,h2⟩=>?_⟩
   by_cases e:i=n
   ·subst e;exact⟨i - 1,by omega,by rw [<- q.2];exact h2⟩
   ·exact⟨i,by omega,h2⟩
  ·rw [zL,zO,qqF n x]
   refine⟨fun h=>?_,fun ⟨i,h1,h2⟩=>?_⟩
   ·rcases h with⟨i,h1,h2⟩ | h
    ·exact⟨i,by omega,h2⟩
    ·exact⟨n,by omega,h.symm⟩
   ·by_cases e:i=n
    ·subst e;exact Or.inr h2.symm
    ·exact Or.inl ⟨i,by omega,h2⟩
theorem quE{xs:List Tr}(hs:xs.Pairwise fun a b=>¬ cmpS b a<0):∀ n,n<=xs.length->RiseS (cpt xs n)
 | 0,_=>List.Pairwise.nil
 | n+1,hn=>by
  have hr:=quE hs n (by omega)
  rw [cpt]
  split
  ·exact hr
  ·rename_i q
   refine List.pairwise_append.2 ⟨hr,by simp,fun a ha b hb=>?_⟩
   rw [zO] at hb
   subst hb
   obtain⟨i,hi,rfl⟩:=(qqF n a).1 ha
   have hle:∀ i j,i<j->j<xs.length->cmpS (nth z3 xs i) (nth z3 xs j)<=0:=fun i j hij hj=>by
    have:=zAV.1 hs i j (by omega) hj hij
    rw [qcU (by omega),qcU hj]
    have h2:=qjY (sl xs[j]) (sl xs[i])
    unfold cmpS at *
    omega
   have h1:=hle i n hi (by omega)
   show cmpS (nth z3 xs i) (nth z3 xs n)<0
   rcases Int.lt_or_eq_of_le h1 with h | h
   ·exact h
   ·exfalso
    have e:nth z3 xs i=nth z3 xs n:=qtQ (qmX h)
    apply q
    refine⟨by omega,?_⟩
    by_cases e2:i=n - 1
    ·rw [<- e2];exact e.symm
    ·have h2:=hle i (n - 1) (by omega) (by omega)
     have h3:=hle (n - 1) n (by omega) (by omega)
     rw [e] at h2
     have h4:=qjY (sl (nth z3 xs (n - 1))) (sl (nth z3 xs n))
     exact qtQ (qmX (by unfold cmpS at *;omega))
theorem Eq_eq{N:Nat}(hN:200000000<=N){s:Tr}(h:s.2.2.length<=4)(r:Tr):∃ b,qaN N (s,r,())=some (b,())/\(b=true↔s=r):=by
 refine⟨cmpS s r==0,?_,?_⟩
 ·simp only [qaN,qfU,show (s.1,s.2.1,s.2.2)=s from rfl,show (r.1,r.2.1,r.2.2)=r from rfl,qnR hN h r,Option.bind_some]
 ·rw [beq_iff_eq]
  exact⟨fun e=>qtQ (qmX e),fun e=>by subst e;exact qhZ _⟩
theorem qvy{N:Nat}(hN:200000000<=N){xs:List Tr}(hl:xs.length<=100000000)(h4:∀ s∈xs,s.2.2.length<=4):∃ ys,qx N xs=some (cpt xs xs.length,ys):=by
 have hx4:∀ i,i<xs.length->(nth z3 xs i).2.2.length<=4:=fun i hi=>h4 _ (qbI hi)
 simp only [qx,qaB]
 have hall:∀ n,n<=xs.length->(∀ i,0<i->i<n->nth z3 xs i≠nth z3 xs (i - 1))->cpt xs n=xs.take n:=by
  intro n
  induction n with
  | zero=>intro _ _;rfl
  | succ n ih=>
   intro hn hne
   rw [cpt,zK (fun q=>hne n q.1 (by omega) q.2),ih (by omega) fun i h0 hi=>hne i h0 (by omega),zAD (by omega),qcU (by omega)]
 by_cases h2:xs.length<2
 ·rw [qA (by omega),cond_true,hall _ (Nat.le_refl _) fun i h0 hi=>by omega,zAW]
  exact⟨_,rfl⟩
 rw [qK (by omega),cond_false]
 simp only [joinD,loopE]
 refine qjo (fun r=>∃ ys,r=some (cpt xs xs.length,ys)) xs.length (fun t s=>s=((t+1:Nat):Int)/\t+1<=xs.length/\∀ i,0<i->i<t+1->nth z3 xs i≠nth z3 xs (i - 1)) ?_ ?_ (by omega) ⟨rfl,by omega,fun i _ _=>by omega⟩
 ·rintro t s ht ⟨rfl,hts,hne⟩ kn hk
  simp only [qaC]
  by_cases hlt:t+1<xs.length
  case neg=>
   rw [qK (show ¬ ((t+1:Nat):Int)<(xs.length:Int) by omega),cond_false,qaE]
   have:t+1=xs.length:=by omega
   rw [hall _ (Nat.le_refl _) fun i h0 hi=>hne i h0 (by omega),zAW]
   exact⟨_,rfl⟩
  have e1:IntKind.i64.wrap (((t+1:Nat):Int) - 1)=((t:Nat):Int):=by rw [w64 (by omega) (by omega)];omega
  have e2:IntKind.i64.wrap (((t+1:Nat):Int)+1)=((t+1+1:Nat):Int):=by rw [w64 (by omega) (by omega)];omega
  obtain⟨b,hb,hb2⟩:=Eq_eq hN (hx4 (t+1) hlt) (nth z3 xs t)
  simp only [lt_d hlt,cond_true,joinD,e1,ge0_d,lt_d (show t<xs.length by omega),Bool.and_self,Int.toNat_natCast,nth3,hb,Option.bind_some]
  cases b with
  | false=>
   simp only [cond_false,qaD,e2,qU]
   exact hk _ ⟨rfl,by omega,fun i h0 hi=>by
    by_cases e:i=t+1
    ·subst e
     intro q
     exact absurd (hb2.2 q) (by simp)
    ·exact hne i h0 (by omega)⟩
  | true=>
   have heq:=hb2.1 rfl
   rw [cond_true,qA (show ((t+1:Nat):Int)<=(xs.length:Int) by omega),Bool.and_self,cond_true]
   simp only [loopE]
   obtain⟨s,⟨k,row,rfl,hk1,hrl,hpre,-⟩,hs⟩:=qwy (N:=N) (g:=fun (s:Int×Int×List Tr) kn=>qC N (fun s=>qE N s.1 s.2) (t+1) s.1 s.2.1 s.2.2 (backE (t+1) kn)) (k:=fun s=>qE N s.1 s.2.2) (xs.length - (t+1) - 1)
    (fun u s=>∃ (k:Nat) (row:List Tr),s=((k:Int),((u+1:Nat):Int),row)/\k<=t+1+u/\row.length=xs.length/\row.take k=cpt xs (t+1+(u+1))/\∀ i,t+1+u<=i->i<xs.length->nth z3 row i=nth z3 xs i)
    (fun u s hu h=>by
     obtain⟨k,row,rfl,h1,h2,h3,h5⟩:=h
     have f1:IntKind.i64.wrap (((u+1:Nat):Int) - 1)=((u:Nat):Int):=by rw [w64 (by omega) (by omega)];omega
     have f2:IntKind.i64.wrap (((u+1:Nat):Int)+1)=((u+1+1:Nat):Int):=by rw [w64 (by omega) (by omega)];omega
     have g1:=h5 (t+1+(u+1)) (by omega) (by omega)
     have g2:=h5 (t+1+u) (by omega) (by omega)
     obtain⟨b,hb,hb2⟩:=Eq_eq hN (hx4 (t+1+(u+1)) (by omega)) (nth z3 xs (t+1+u))
     have hc:cpt xs (t+1+(u+1+1))=if nth z3 xs (t+1+(u+1))=nth z3 xs (t+1+u) then cpt xs (t+1+(u+1)) else cpt xs (t+1+(u+1)) ++ [nth z3 xs (t+1+(u+1))]:=by
      show cpt xs (t+1+(u+1)+1)=_
      rw [cpt]
      by_cases q:nth z3 xs (t+1+(u+1))=nth z3 xs (t+1+u)
      ·rw [zH q,zH ⟨by omega,q⟩]
      ·rw [zK q,zK fun h=>q h.2]
     have hrun:∀ kn:Int×Int×List Tr->Option qf,qC N (fun s=>qE N s.1 s.2) (t+1) (k:Int) ((u+1:Nat):Int) row (backE (t+1) kn)=bif !b then kn (((k+1:Nat):Int),((u+1+1:Nat):Int),row.set k (nth z3 xs (t+1+(u+1)))) else kn ((k:Int),((u+1+1:Nat):Int),row):=fun kn=>by
      simp only [qC,f1,f2,ge0_d,Int.toNat_natCast,lt_d (show u+1<row.length - (t+1) by omega),lt_d (show u<row.length - (t+1) by omega),lt_d (show k<row.length by omega),Bool.and_self,cond_true,nth3,g1,g2,hb,Option.bind_some,qU,ix1 (show k<100000000 by omega) (by omega)]
      rfl
     cases b with
     | true=>
      refine⟨_,⟨k,row,rfl,by omega,h2,?_,fun i hi hil=>h5 i (by omega) hil⟩,fun kn=>(hrun kn).trans rfl⟩
      rw [hc,zH (hb2.1 rfl),h3]
     | false=>
      have hne':¬ nth z3 xs (t+1+(u+1))=nth z3 xs (t+1+u):=fun q=>by have:=hb2.2 q;cases this
      refine⟨_,⟨k+1,row.set k (nth z3 xs (t+1+(u+1))),rfl,by omega,by simpa using h2,?_,fun i hi hil=>?_⟩,fun kn=>(hrun kn).trans rfl⟩
      ·rw [hc,zK hne',<- h3,zAD (by simp;omega),List.getElem_set_self,List.take_set_of_le (Nat.le_refl _)]
      ·rw [nth_set (by omega),zK (by omega)]
       exact h5 i (by omega) hil)
    (fun s h kn=>by
     obtain⟨k,row,rfl,h1,h2,h3,h5⟩:=h
     simp only [qC]
     rw [qK (show ¬ ((xs.length - (t+1) - 1+1:Nat):Int)<((row.length - (t+1):Nat):Int) by omega),cond_false])
    (by omega) (s:=(((t+1:Nat):Int),1,xs)) ⟨t+1,xs,rfl,by omega,rfl,by
     show xs.take (t+1)=cpt xs (t+1+1)
     rw [cpt,zH ⟨by omega,heq⟩,hall (t+1) (by omega) hne],fun i _ _=>rfl⟩
   rw [hs]
   simp only [qE]
   have hkl:k<=xs.length:=by omega
   have hlen:(row.take k++List.replicate (row.length - k) z3).length=xs.length:=by simp;omega
   rw [show ((k:Int)).toNat=k from rfl,qA (show (0:Int)<=(k:Int) by omega),qA (show (k:Int)<=(row.length:Int) by omega),Bool.and_self,cond_true,qA (show (k:Int)<=((row.take k++List.replicate (row.length - k) ((0:Int),((0:Int),([]:List Int)))).length:Int) by rw [show (row.take k++List.replicate (row.length - k) ((0:Int),((0:Int),([]:List Int)))).length=xs.length from hlen];omega)]
   refine⟨row.take k++List.replicate (row.length - k) z3,?_⟩
   have hkey:((row.take k++List.replicate (row.length - k) z3).take k).drop ((0:Int)).toNat=cpt xs xs.length:=by
    rw [show ((0:Int)).toNat=0 from rfl,List.drop_zero,List.take_append_of_le_length (by simp;omega),zAg (by rw [zq];exact Nat.min_le_left _ _),hpre]
    congr 1
    omega
   simp only [show decide ((0:Int)<=0)=true from rfl,Bool.and_self,cond_true]
   exact congrArg (fun z=>some (z,row.take k++List.replicate (row.length - k) z3)) hkey
 ·rintro s ⟨rfl,hts,hne⟩ kn
  omega
structure SL (xs:List Tr):Prop where
 len:xs.length<=100000000
 ok:∀ s∈xs,qw (sm s) 4=0
 one:∀ s∈xs,s.1+s.2.2.length=(nth z3 xs 0).1+(nth z3 xs 0).2.2.length
theorem SL.p4{xs:List Tr}(h:SL xs){s:Tr}(hs:s∈xs):s.2.2.length<=4:=by
 have:=(sok (h.ok s hs)).k1
 have:=(sok (h.ok s hs)).k4
 omega
def minS(xs:List Tr)(s:Tr):Prop:=s∈xs/\∀ r∈xs,leqS r s=true->r=s
theorem qxp{N:Nat}{a:List Tr}(h:a.length<=200000000):qG N (a,())=some a:=by
 simp only [qG,qaY]
 rw [qA (by simp;omega)]
 cases a with
 | nil=>simp [dem2];rfl
 | cons x xs=>simp;rfl
noncomputable def qhV(l:List Tr)(s:Tr):Bool:=@decide (∀ r∈l,leqS r s=true->r=s) (Classical.propDecidable _)
theorem qip{l:List Tr}{s:Tr}:qhV l s=true↔∀ r∈l,leqS r s=true->r=s:=by unfold qhV;exact @decide_eq_true_iff _ (Classical.propDecidable _)
theorem qtb{l:List Tr}{b s:Tr}:qhV (l ++ [b]) s=(qhV l s&&(@decide (b=s) (Classical.propDecidable _) || !leqS b s)):=by
 classical
 rw [Bool.eq_iff_iff,zB,qip,qip]
 refine⟨fun h=>⟨fun r hr=>h r (za _ hr),?_⟩,fun h r hr=>?_⟩
 ·have h1:=h b (zV _ (zO.2 rfl))
  cases q:leqS b s with
  | false=>simp
  | true=>rw [zw];exact Or.inl (@decide_eq_true _ (Classical.propDecidable _) (h1 q))
 ·rcases zL.1 hr with hr | hr
  ·exact h.1 r hr
  ·rw [zO] at hr
   subst hr
   intro q
   have h2:=h.2
   rw [q] at h2
   simpa using h2
theorem qxI{N:Nat}(hN:200000000<=N){xs:List Tr}(h:SL xs):∃ f,qbP N (xs,())=some f/\RiseS f/\(∀ s,s∈f↔minS xs s)/\f.length<=xs.length:=by
 classical
 have hlen:=h.len
 obtain⟨ys,y1,y2⟩:=qtP (qAg xs (by omega))
 have hsort:sortR (fun p q=>(qai N (p,q,())).map (·.1)) xs=some ys:=qmp (fun a ha b hb=>by rw [qnR hN (h.p4 ha) b];rfl) y1
 have hyl:ys.length=xs.length:=y2.1.length_eq
 have hym:∀ t,t∈ys↔t∈xs:=fun t=>y2.1.mem_iff
 obtain⟨zs,hcm⟩:=qvy hN (xs:=ys) (by omega) fun s hs=>h.p4 ((hym s).1 hs)
 have hL:=quE (xs:=ys) (y2.2.imp fun {a b} h=>zAn h) ys.length (Nat.le_refl _)
 have hLl:=qxl ys ys.length
 have hLm:∀ s,s∈cpt ys ys.length↔s∈xs:=fun s=>by
  rw [qqF,<- hym]
  exact⟨fun ⟨i,h1,h2⟩=>h2▸qbI h1,fun h=>mem_nth h⟩
 generalize hLe:cpt ys ys.length=L at *
 have hnd:=hL.nodup
 let keep:Tr->Bool:=qhV L
 refine⟨L.filter keep,?_,hL.sublist List.filter_sublist,fun s=>?_,zr (zAd _ _) (by omega)⟩
 ·simp only [qbP,qhI,qxp (N:=N) (show xs.length<=200000000 by omega),Option.bind_some,hsort,hcm,joinD,loopE]
  refine qcA (N:=N) L.length (fun i=>((i:Int),(L.take i).filter keep)) (fun i hi kn=>?_) (fun kn=>?_) (by omega)
  ·have hp:(L[i]).2.2.length<=4:=h.p4 ((hLm _).1 (zAy hi))
   have hfl:=zAd keep (L.take i)
   rw [zq] at hfl
   have hstep:(L.take (i+1)).filter keep=(L.take i).filter keep++if keep L[i]=true then [L[i]] else []:=by
    rw [zAD hi,zAo]
    congr 1
    by_cases q:keep L[i]=true
    ·rw [zH q];simp [q]
    ·rw [zK q];simp [q]
   have hn:nth ((0:Int),((0:Int),([]:List Int))) L i=L[i]:=qcU hi
   simp only [qfd,lt_d hi,ge0_d,Bool.and_self,cond_true,joinD,Int.toNat_natCast,hn,loopE]
   obtain⟨p1,p2,p3⟩:∃ a b c,L[i]=(a,b,c):=⟨_,_,_,rfl⟩
   refine Eq.trans (congrArg (fun b=>loopD _ N (b,(0:Int))) (qip.2 (fun r hr=>by rw [List.take_zero] at hr;cases hr):qhV (L.take 0) L[i]=true).symm) (qcA (N:=N) L.length (fun j=>(qhV (L.take j) L[i],(j:Int))) (k:=kn (((i+1:Nat):Int),(L.take (i+1)).filter keep)) (fun j hj kn2=>?_) (fun kn2=>?_) (by omega))
   ·have hnj:nth ((0:Int),((0:Int),([]:List Int))) L j=L[j]:=qcU hj
    have hinj:L[j]=L[i]↔i=j:=⟨fun e=>((List.getElem_inj hnd).1 e).symm,fun e=>by subst e;rfl⟩
    have hs2:qhV (L.take (j+1)) L[i]=(qhV (L.take j) L[i]&&(@decide (L[j]=L[i]) (Classical.propDecidable _) || !leqS L[j] L[i])):=by
     rw [zAD hj];exact qtb
    simp only [qfe,lt_d hj,ge0_d,Bool.and_self,cond_true,Int.toNat_natCast,hnj,qU,ix1 hj (show L.length<=1000000000 by omega),show (L[j].1,L[j].2.1,L[j].2.2)=L[j] from rfl,show (L[i].1,L[i].2.1,L[i].2.2)=L[i] from rfl,qqM hN,Option.bind_some]
    rw [hs2]
    cases q:qhV (L.take j) L[i] with
    | false=>rfl
    | true=>
     simp only [cond_true,Bool.true_and]
     by_cases q2:i=j
     ·subst q2
      rw [show ((i:Int)==(i:Int))=true from zAX _,cond_true,@decide_eq_true _ (Classical.propDecidable _) (hinj.2 rfl),Bool.true_or];rfl
     ·rw [show ((i:Int)==(j:Int))=false from zW (by omega),cond_false,@zBB _ (Classical.propDecidable _) (fun h=>q2 (hinj.1 h)),Bool.false_or];rfl
   ·simp only [qfe,qbr,cond_false,zAW]
    have hk:qhV L L[i]=keep L[i]:=rfl
    rw [hk,hstep]
    simp only [qhJ,qqG (N:=N) (show (L[i]).2.2.length<=200000000 by omega),Option.bind_some]
    cases q:keep L[i] with
    | false=>simp only [cond_false,qff,qU,ix1 hi (show L.length<=1000000000 by omega),zx,if_false,List.append_nil];rfl
    | true=>
     rw [cond_true,qA (by simp only [zg,zAd];omega),show Nat.ble 1 40=true from rfl,Bool.and_self,cond_true]
     simp only [qff,qU,ix1 hi (show L.length<=1000000000 by omega),if_true]
     rfl
  ·simp only [qfd,qbr,cond_false,qhK,zAW]
 ·rw [zAA,hLm]
  refine and_congr Iff.rfl ?_
  refine Iff.trans qip ?_
  exact⟨fun h r hr=>h r ((hLm r).2 hr),fun h r hr=>h r ((hLm r).1 hr)⟩
theorem qrF{xs:List Tr}(h:SL xs){s:Tr}(hs:s∈xs):∃ r,minS xs r/\leqS r s=true:=by
 have key:∀ n s,s∈xs->(xs.filter fun r=>leqS r s).length<n->∃ r,minS xs r/\leqS r s=true:=by
  intro n
  induction n with
  | zero=>intro s _ h;omega
  | succ n ih=>
   intro s hs hl
   by_cases q:minS xs s
   ·exact⟨s,q,qmY (h.ok s hs)⟩
   ·obtain⟨r,hr,hrs,hne⟩:∃ r,r∈xs/\leqS r s=true/\r≠s:=Classical.byContradiction fun hn=>q ⟨hs,fun r hr hrs=>Classical.byContradiction fun hne=>hn ⟨r,hr,hrs,hne⟩⟩
    obtain⟨m,hm,hmr⟩:=ih r hr (by
     have:=Go.Abs.filter_lt (p:=fun q=>leqS q r) (q:=fun q=>leqS q s) xs (fun x _ hx=>qgH hx hrs) ⟨s,hs,qmY (h.ok s hs),by
      cases e:leqS s r with
      | false=>rfl
      | true=>exact absurd (qwD hrs e) hne⟩
     omega)
    exact⟨m,hm,qgH hmr hrs⟩
 exact key _ s hs (zBQ _)
end Go.Proofs.YtgnnhemoocfclaaDoor.Rea
