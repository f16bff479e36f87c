import Derived.Test.YtgnnhemoocfclaaGreatDoorRTimS
import Derived.Test.YtgnnhemoocfclaaGreatDoorRSum
import Derived.Test.YtgnnhemoocfclaaGreatDoorSummP
namespace Go.Proofs.YtgnnhemoocfclaaGreatDoor.Rea
open Go.Abs
open Go.Smy (Sm qC qeh qaR qw qdA qpd qmC qbp leqP qbs thenS lastOf qba placeN_last)
abbrev Tr:=Int×Int×List Int
def sm(x:Tr):Sm:=⟨x.1,x.2.1,x.2.2⟩
theorem nthI(xs:List Int)(i:Nat):Go.Smy.nth xs i=nth 0 xs i:=rfl
theorem qkH(N:Nat)(x:Int):qay N (x,())=some (!qaR x,()):=by
 simp only [qay,qkn,qaR]
 by_cases h:x<0
 ·rw [qO (show ¬ x>=0 by omega),qy h];rfl
 ·rw [qy (show x>=0 by omega),qO h,cond_true,Bool.false_or]
  by_cases h':1048576<x
  ·rw [qO (show ¬ x<=1048576 by omega),qy h'];rfl
  ·rw [qy (show x<=1048576 by omega),qO h'];rfl
theorem qCE{xs:List Int}:xs.any qaR=true↔∃ i,i<xs.length/\qaR (nth 0 xs i)=true:=by
 rw [zAS]
 constructor
 ·rintro⟨x,hx,h⟩
  obtain⟨i,hi,rfl⟩:=mem_nth (z:=(0:Int)) hx
  exact⟨i,hi,h⟩
 ·rintro⟨i,hi,h⟩
  exact⟨_,qbJ hi,h⟩
theorem qlv{N:Nat}(hN:200000000<=N)(s:Tr)(n:Int):qaH N (s,n,())=some (qC (sm s) n,()):=by
 obtain⟨k,a,p⟩:=s
 simp only [qaH,qkQ,joinD]
 by_cases h1:n<1
 ·rw [qy h1,cond_true,qdA (.inl h1)];rfl
 by_cases h2:n>4
 ·rw [qO h1,cond_false,qy h2,cond_true,qdA (.inr (.inl h2))];rfl
 by_cases h3:k<1
 ·rw [qO h1,cond_false,qO h2,cond_false,qy h3,cond_true,qdA (.inr (.inr (.inl h3)))];rfl
 by_cases h4:k>n
 ·rw [qO h1,cond_false,qO h2,cond_false,qO h3,cond_false,qy h4,cond_true,qdA (.inr (.inr (.inr (.inl h4))))];rfl
 rw [qO h1,cond_false,qO h2,cond_false,qO h3,cond_false,qO h4,cond_false,w64 (show _<=4 - k by omega) (by omega)]
 by_cases h5:(p.length:Int)>4 - k
 ·rw [qy h5,qdA (.inr (.inr (.inr (.inr h5))))];rfl
 rw [qO h5]
 have hl:¬ qeh (sm (k,a,p)) n:=by unfold qeh sm;simp only;omega
 simp only [qkR,cond_false,joinD,loopE]
 rw [qy (show (([a]:List Int).length+p.length)*8<=140737488355328 by simp only [zg];omega),show Nat.ble 1 8=true from rfl,Bool.and_self,cond_true]
 have hlen:([a]++p).length<=5:=by simp;omega
 have hbody:∀ i,i<([a]++p).length->∀ kn,qfw N (fun _=>qhH N) (([a]++p).length:Int) k a p ([a]++p) (i:Int) (backE ((([a]++p).length:Int),k,a,p,[a]++p) kn) =
   if qaR (nth 0 ([a]++p) i)=true then some (2,()) else kn ((i:Int)+1):=fun i hi kn=>by
  simp only [qfw,lt_d hi,ge0_d,Bool.and_self,cond_true,Int.toNat_natCast,qkH N (nth 0 ([a]++p) i),Option.bind_some,qK,ix1 hi (by omega),Bool.not_not]
  cases qaR (nth 0 ([a]++p) i) <;> rfl
 cases hb:([a]++p).any qaR with
 | true=>
  rw [qpd hl hb]
  obtain⟨i,hi,hx⟩:=qCE.1 hb
  exact qlg (n:=([a]++p).length) (by omega) (fun i=>qaR (nth 0 ([a]++p) i)=true) (fun i hi hb kn=>by rw [hbody i hi,zH hb]) (fun i hi hb kn=>by rw [hbody i hi,zJ hb]) (by omega) ⟨i,hi,hx⟩
 | false=>
  rw [qmC hl hb]
  refine qei (n:=([a]++p).length) (by omega) (fun i hi kn=>by rw [hbody i hi,zJ fun hx=>by have:=qCE.2 ⟨i,hi,hx⟩;rw [hb] at this;cases this]) (fun kn=>?_) (by omega)
  simp only [qfw,qbb,cond_false,qhH]
structure SOk (s:Tr):Prop where
 k1:1<=s.1
 k4:s.1+s.2.2.length<=4
theorem sok{s:Tr}{n:Int}(h:qC (sm s) n=0):SOk s:=by
 obtain⟨-,-,a3,-,a5,-,-⟩:=qw.1 h
 exact⟨a3,a5⟩
theorem qve{N:Nat}{s:Tr}(h:SOk s):qbC N (s,())=some (s.1+s.2.2.length,()):=by
 have:=h.k1
 have:=h.k4
 simp only [qbC,qnn]
 rw [w64 (by omega) (by omega)]
def pls(s:Tr):List (Int×Bool):=(List.replicate s.1.toNat ((0:Int),true)).set (s.1.toNat - 1) (s.2.1,true)++s.2.2.map fun x=>(x,false)
theorem qEs{α:Type}(t f:α)(i m:Nat):(List.replicate i t++List.replicate (m+1) f).set i t=List.replicate (i+1) t++List.replicate m f:=by
 rw [List.set_append_right _ _ (by simp),zBg,zBJ,List.replicate_succ,List.set_cons_zero,List.replicate_succ',zT];rfl
theorem qvW{N:Nat}(hN:200000000<=N){s:Tr}(h:SOk s):qca N (s,())=some (pls s):=by
 have h1:=h.k1
 have h4:=h.k4
 obtain⟨k,a,p⟩:=s
 simp only at h1 h4
 obtain⟨K,rfl⟩:∃ K:Nat,k=(K:Int):=⟨k.toNat,by omega⟩
 have eK:((K:Int)).toNat=K:=Int.toNat_natCast K
 simp only [qca,qko,qve h,Option.bind_some,joinD,loopE]
 rw [qy (show (0:Int)<=(K:Int) by omega),qy (show (K:Int)<=(K:Int)+(p.length:Int) by omega),qy (show ((K:Int)+(p.length:Int))*16<=281474976710656 by omega)]
 simp only [Bool.and_self,cond_true,eK,zBg]
 have e0:List.replicate K ((0:Int),false)=List.replicate 0 ((0:Int),true)++List.replicate (K - 0) ((0:Int),false):=rfl
 rw [e0]
 refine qbS (g:=fun (s:Int×List (Int×Bool)) kn=>qeS N (fun s=>qgS N s.1 s.2.1 s.2.2.1 s.2.2.2) (K:Int) (K:Int) a p s.1 s.2 (backE ((K:Int),(K:Int),a,p) kn)) K
  (fun i=>((i:Int),List.replicate i ((0:Int),true)++List.replicate (K - i) ((0:Int),false))) (fun i hi kn=>?_) (fun kn=>?_) (by omega)
 ·have hlen:(List.replicate i ((0:Int),true)++List.replicate (K - i) ((0:Int),false)).length=K:=by simp;omega
  have hn:nth ((0:Int),false) (List.replicate i ((0:Int),true)++List.replicate (K - i) ((0:Int),false)) i=(0,false):=by
   obtain⟨m,hm⟩:∃ m,K - i=m+1:=⟨K - i - 1,by omega⟩
   rw [hm,qcv (by simp),List.getElem_append_right (by simp)]
   simp
  simp only [qeS,hlen,lt_d hi,ge0_d,Bool.and_self,cond_true,Int.toNat_natCast,hn,qK,ix1 hi (by omega)]
  obtain⟨m,hm⟩:∃ m,K - i=m+1:=⟨K - i - 1,by omega⟩
  rw [hm,qEs,show K - (i+1)=m by omega];rfl
 ·simp only [qeS,qbb,cond_false,zBJ,List.replicate_zero,List.append_nil,qgS,zBg,joinD,loopE]
  have w1:IntKind.i64.wrap ((K:Int) - 1)=((K - 1:Nat):Int):=by rw [w64 (by omega) (by omega)];omega
  have hn:nth ((0:Int),false) (List.replicate K ((0:Int),true)) (K - 1)=(0,true):=by
   rw [qcv (by simp;omega)];simp
  rw [w1,qy (show (0:Int)<=((K - 1:Nat):Int) by omega),qy (show ((K - 1:Nat):Int)<(K:Int) by omega)]
  simp only [Bool.and_self,cond_true,Int.toNat_natCast,hn]
  have hpl:pls ((K:Int),a,p)=(List.replicate K ((0:Int),true)).set (K - 1) (a,true)++p.map fun x=>(x,false):=rfl
  rw [hpl]
  have hb:(List.replicate K ((0:Int),true)).set (K - 1) (a,true)=(List.replicate K ((0:Int),true)).set (K - 1) (a,true)++((p.take 0).map fun x=>(x,false)):=by simp
  conv=>lhs;rw [hb]
  refine qbS (g:=fun (s:Int×List (Int×Bool)) kn=>qeT N (fun s=>qgT N s.2.2.2) p (p.length:Int) (K:Int) a p s.1 s.2 (backE (p,(p.length:Int),(K:Int),a,p) kn)) p.length
   (fun i=>((i:Int),(List.replicate K ((0:Int),true)).set (K - 1) (a,true)++((p.take i).map fun x=>(x,false)))) (fun i hi kn=>?_) (fun kn=>?_) (by omega)
  ·simp only [qeT,lt_d hi,ge0_d,Bool.and_self,cond_true,Int.toNat_natCast]
   rw [qy (show (((List.replicate K ((0:Int),true)).set (K - 1) (a,true)++((p.take i).map fun x=>(x,false))).length + [(nth 0 p i,false)].length)*16<=140737488355328 by simp;omega),show Nat.ble 1 16=true from rfl]
   simp only [Bool.and_self,cond_true,qK,ix1 hi (by omega),zT]
   rw [show (p.take (i+1)).map (fun x=>(x,false))=(p.take i).map (fun x=>(x,false)) ++ [(nth 0 p i,false)] by rw [zW hi,zAi,qcv hi];rfl]
   rfl
  ·simp only [qeT,qbb,cond_false,qgT,zAB]
theorem qxC{s:Tr}(h:SOk s):(pls s).length=(s.1+s.2.2.length).toNat:=by
 have:=h.k1
 simp [pls];omega
theorem qAV{s:Tr}(h:SOk s){i:Nat}(hi:i<(pls s).length):nth ((0:Int),false) (pls s) i=(qbp (sm s) i,decide ((i:Int)<s.1)):=by
 have h1:=h.k1
 have hl:=qxC h
 have hr:((List.replicate s.1.toNat ((0:Int),true)).set (s.1.toNat - 1) (s.2.1,true)).length=s.1.toNat:=by simp
 show Go.Smy.nth (pls s) i=_
 unfold pls qbp sm
 simp only
 by_cases c:s.1<=(i:Int)
 ·rw [Go.Smy.nth_append_right _ _ _ (by omega),hr,zH c,qO (by omega),Go.Smy.nth_map _ _ _ (by omega),show i - s.1.toNat=((i:Int) - s.1).toNat by omega]
 ·rw [Go.Smy.nth_append_left _ _ _ (by omega),zJ c,qy (by omega),Go.Smy.nth_set]
  by_cases c':s.1.toNat - 1=i
  ·rw [zH ⟨c',by simp;omega⟩,zH (by omega)]
  ·rw [zJ fun h=>c' h.1,zJ (by omega),Go.Smy.nth_eq _ _ (by simp;omega)];simp
noncomputable def leqS(s r:Tr):Bool:=@decide (leqP (sm s) (sm r)) (Classical.propDecidable _)
theorem qjX{s r:Tr}:leqS s r=true↔leqP (sm s) (sm r):=by unfold leqS;exact @decide_eq_true_iff _ (Classical.propDecidable _)
theorem quC{s r:Tr}(h:¬ leqP (sm s) (sm r)):leqS s r=false:=by unfold leqS;exact @zBE _ (Classical.propDecidable _) h
theorem qnI{s r:Tr}(h:leqP (sm s) (sm r)):leqS s r=true:=qjX.2 h
theorem qvf{N:Nat}(hN:200000000<=N)(s r:Tr):qcJ N (s,r,())=some (leqS s r,()):=by
 simp only [qcJ,qno,qlv hN (s.1,s.2.1,s.2.2) 4,qlv hN (r.1,r.2.1,r.2.2) 4,Option.bind_some]
 by_cases c1:qC (sm s) 4=0
 case neg=>rw [show (qC (sm (s.1,s.2.1,s.2.2)) 4 != 0)=true from bne_iff_ne.2 c1,cond_true,quC fun h=>c1 h.1]
 rw [show (qC (sm (s.1,s.2.1,s.2.2)) 4 != 0)=false from by rw [show qC (sm (s.1,s.2.1,s.2.2)) 4=0 from c1];rfl,cond_false]
 by_cases c2:qC (sm r) 4=0
 case neg=>rw [show (qC (sm (r.1,r.2.1,r.2.2)) 4 != 0)=true from bne_iff_ne.2 c2,cond_true,quC fun h=>c2 h.2.1]
 rw [show (qC (sm (r.1,r.2.1,r.2.2)) 4 != 0)=false from by rw [show qC (sm (r.1,r.2.1,r.2.2)) 4=0 from c2];rfl,cond_false]
 have o1:=sok c1
 have o2:=sok c2
 rw [qve (s:=(s.1,s.2.1,s.2.2)) o1,qve (s:=(r.1,r.2.1,r.2.2)) o2,qvW hN (s:=(s.1,s.2.1,s.2.2)) o1,qvW hN (s:=(r.1,r.2.1,r.2.2)) o2]
 simp only [Option.bind_some,Option.map_some]
 by_cases c3:s.1+(s.2.2.length:Int)=r.1+(r.2.2.length:Int)
 case neg=>rw [show (s.1+(s.2.2.length:Int) != r.1+(r.2.2.length:Int))=true from bne_iff_ne.2 c3,cond_true,quC fun h=>c3 h.2.2.1]
 rw [show (s.1+(s.2.2.length:Int) != r.1+(r.2.2.length:Int))=false from by rw [c3];exact bne_self_eq_false _,cond_false]
 have l1:=qxC o1
 have l2:=qxC o2
 have k1:=o1.k1
 have k4:=o1.k4
 simp only [joinD,loopE,show pls (s.1,s.2.1,s.2.2)=pls s from rfl,show pls (r.1,r.2.1,r.2.2)=pls r from rfl]
 have hbody:∀ i,i<(pls s).length->∀ kn,qhi N (fun _=>qjL N) (pls s) (pls r) ((pls s).length:Int) s.1 s.2.1 s.2.2 r.1 r.2.1 r.2.2 (i:Int) (backE (pls s,pls r,((pls s).length:Int),s.1,s.2.1,s.2.2,r.1,r.2.1,r.2.2) kn) =
   if ¬ (qbp (sm s) i<=qbp (sm r) i/\((i:Int)<s.1->(i:Int)<r.1)) then some (false,()) else kn ((i:Int)+1):=fun i hi kn=>by
  simp only [qhi,joinD,lt_d hi,lt_d (show i<(pls r).length by omega),ge0_d,Bool.and_self,cond_true,Int.toNat_natCast,qAV o1 hi,qAV o2 (show i<(pls r).length by omega),qnp,qK,ix1 hi (by omega)]
  by_cases b1:qbp (sm s) i>qbp (sm r) i
  ·rw [qy b1,cond_true,zH fun h=>by omega]
  ·rw [qO b1,cond_false]
   by_cases b2:(i:Int)<s.1
   ·rw [qy b2,cond_true]
    by_cases b3:(i:Int)<r.1
    ·rw [qy b3,zJ fun h=>h ⟨by omega,fun _=>b3⟩];rfl
    ·rw [qO b3,zH fun h=>b3 (h.2 b2)];rfl
   ·rw [qO b2,zJ fun h=>h ⟨by omega,fun h=>absurd h b2⟩];rfl
 by_cases hall:leqP (sm s) (sm r)
 ·rw [qnI hall]
  refine qei (n:=(pls s).length) (by omega) (fun i hi kn=>by rw [hbody i hi,zJ fun h=>h (hall.2.2.2 i (by show (i:Int)<s.1+(s.2.2.length:Int);omega))]) (fun kn=>?_) (by omega)
  simp only [qhi,qbb,cond_false,qjL]
 ·rw [quC hall]
  have hex:∃ i,i<(pls s).length/\¬ (qbp (sm s) i<=qbp (sm r) i/\((i:Int)<s.1->(i:Int)<r.1)):=Classical.byContradiction fun hn=>hall ⟨c1,c2,c3,fun i hi=>Classical.byContradiction fun hb=>hn ⟨i,by have:(i:Int)<s.1+(s.2.2.length:Int):=hi;omega,hb⟩⟩
  exact qlg (n:=(pls s).length) (by omega) (fun i=>¬ (qbp (sm s) i<=qbp (sm r) i/\((i:Int)<s.1->(i:Int)<r.1))) (fun i hi hb kn=>by rw [hbody i hi,zH hb]) (fun i hi hb kn=>by rw [hbody i hi,zJ hb]) (by omega) hex
theorem qmR{R S:Type}{g:S->(S->Option R)->Option R}(Q:Option R->Prop)(n:Nat)(I:Nat->S->Prop)(h2:∀ i s,i<n->I i s->∀ kn,(∀ s',I (i+1) s'->Q (kn s'))->Q (g s kn))
  (h3:∀ s,I n s->∀ kn,Q (g s kn)) {N:Nat} (hN:n<N) {s:S} (h0:I 0 s):Q (loopD g N s):=by
 have key:∀ j i s M,i+j=n->I i s->j<M->Q (loopD g M s):=by
  intro j
  induction j with
  | zero=>
   rintro i s (_ | M) hi hI hM
   ·omega
   ·show Q (g s (loopD g M));exact h3 s (by rw [<- hi];exact hI) _
  | succ j ih=>
   rintro i s (_ | M) hi hI hM
   ·omega
   ·show Q (g s (loopD g M))
    exact h2 i s (by omega) hI _ fun s' hs'=>ih (i+1) s' M (by omega) hs' (by omega)
 exact key n 0 s N (by omega) h0 hN
theorem nth3(xs:List Tr)(i:Nat):((nth ((0:Int),((0:Int),([]:List Int))) xs i).1,(nth ((0:Int),((0:Int),([]:List Int))) xs i).2.1,(nth ((0:Int),((0:Int),([]:List Int))) xs i).2.2)=nth ((0:Int),((0:Int),([]:List Int))) xs i:=rfl
abbrev z3:Tr:=((0:Int),((0:Int),([]:List Int)))
theorem qBw{s:Sm}(h:qC s 4=0):leqP s s:=⟨h,h,rfl,fun _ _=>⟨zAO _,fun h=>h⟩⟩
theorem qzY{s r q:Sm}(h:leqP s r)(k:leqP r q):leqP s q:=
 ⟨h.1,k.2.1,h.2.2.1.trans k.2.2.1,fun i hi=>⟨zBS (h.2.2.2 i hi).1 (k.2.2.2 i (by have:=h.2.2.1;omega)).1,fun hk=>(k.2.2.2 i (by have:=h.2.2.1;omega)).2 ((h.2.2.2 i hi).2 hk)⟩⟩
theorem qwm{s r:Sm}(h:leqP s r):s.keep<=r.keep:=by
 obtain⟨-,-,a3,-,a5,-,-⟩:=qw.1 h.1
 have:=(h.2.2.2 (s.keep - 1).toNat (by omega)).2 (by omega)
 omega
theorem qBx{s r:Sm}(h:leqP s r)(k:leqP r s):s=r:=by
 have hk:s.keep=r.keep:=by have:=qwm h;have:=qwm k;omega
 obtain⟨-,-,a3,-,a5,-,-⟩:=qw.1 h.1
 have ho:=h.2.2.1
 have hp:∀ i:Nat,(i:Int)<s.keep+s.push.length->qbp s i=qbp r i:=fun i hi=>by
  have h1:=(h.2.2.2 i hi).1
  have h2:=(k.2.2.2 i (by omega)).1
  omega
 have ha:s.add=r.add:=by
  have:=hp (s.keep - 1).toNat (by omega)
  rwa [placeN_last (by omega),placeN_last (by omega)] at this
 have hpu:s.push=r.push:=by
  refine Go.Smy.nth_ext (by omega) fun i hi=>?_
  have:=hp (s.keep+i).toNat (by omega)
  rw [qba (by omega),qba (by omega)] at this
  rwa [show ((((s.keep+i).toNat:Nat):Int) - s.keep).toNat=i by omega,show ((((s.keep+i).toNat:Nat):Int) - r.keep).toNat=i by omega] at this
 cases s;cases r
 simp only at hk ha hpu
 subst hk;subst ha;subst hpu
 rfl
theorem qnJ{s:Tr}(h:qC (sm s) 4=0):leqS s s=true:=qnI (qBw h)
theorem qjq{s r q:Tr}(h:leqS s r=true)(k:leqS r q=true):leqS s q=true:=qnI (qzY (qjX.1 h) (qjX.1 k))
theorem qBv{s r:Tr}(h:leqS s r=true)(k:leqS r s=true):s=r:=by
 have:=qBx (qjX.1 h) (qjX.1 k)
 have h1:=congrArg Sm.keep this
 have h2:=congrArg Sm.add this
 have h3:=congrArg Sm.push this
 simp only [sm] at h1 h2 h3
 exact Prod.ext h1 (Prod.ext h2 h3)
def sl(s:Tr):List Int:=s.1 :: s.2.1 :: s.2.2
theorem qyB{s r:Tr}(h:sl s=sl r):s=r:=by
 simp only [sl,zAD] at h
 exact Prod.ext h.1 (Prod.ext h.2.1 h.2.2)
abbrev cmpS(s r:Tr):Int:=lexc (sl s) (sl r)
theorem qFG{N:Nat}(hN:10<=N)(a b c:Int):qch N ([a,b,c],())=some (if a=0 then (if b=0 then c else b) else a,()):=by
 simp only [qch,qlp,joinD,loopE]
 have hb:∀ i:Nat,i<3->∀ kn,qfs N (fun _s=>qgL N _s) 0 [a,b,c] (([a,b,c]:List Int).length:Int) (i:Int) (backE ((0:Int),[a,b,c],(([a,b,c]:List Int).length:Int)) kn)=if nth 0 [a,b,c] i=0 then kn ((i:Int)+1) else some (nth 0 [a,b,c] i,()):=fun i hi kn=>by
  simp only [qfs,lt_d (show i<([a,b,c]:List Int).length from hi),ge0_d,Int.toNat_natCast,Bool.and_self,cond_true,ix1 hi (by omega),qK]
  by_cases q:nth 0 [a,b,c] i=0
  ·rw [zH q,q,bne_self_eq_false];rfl
  ·rw [zJ q,show (nth 0 [a,b,c] i != 0)=true from bne_iff_ne.2 q];rfl
 obtain⟨M,rfl⟩:∃ M,N=M+4:=⟨N - 4,by omega⟩
 have e0:=hb 0 (by omega)
 have e1:=hb 1 (by omega)
 have e2:=hb 2 (by omega)
 simp only [loopD]
 refine (e0 _).trans ?_
 have n0:nth 0 [a,b,c] 0=a:=rfl
 have n1:nth 0 [a,b,c] 1=b:=rfl
 have n2:nth 0 [a,b,c] 2=c:=rfl
 rw [n0]
 by_cases ha:a=0
 ·rw [zH ha,zH ha]
  refine (e1 _).trans ?_
  rw [n1]
  by_cases hb':b=0
  ·rw [zH hb',zH hb']
   refine (e2 _).trans ?_
   rw [n2]
   by_cases hc:c=0
   ·rw [zH hc,hc];rfl
   ·rw [zJ hc]
  ·rw [zJ hb',zJ hb']
 ·rw [zJ ha,zJ ha]
theorem qrY{N:Nat}(hN:200000000<=N){s:Tr}(h:s.2.2.length<=4)(r:Tr):qaJ N (s,r,())=some (cmpS s r,()):=by
 simp only [qaJ,qjf,qzF N s.1 r.1,qzF N s.2.1 r.2.1,qoW h hN,Option.bind_some,qFG (show 10<=N by omega)]
 unfold cmpS sl
 simp only [lexc]
 congr 2
 by_cases c1:s.1<r.1
 ·simp [c1]
 ·by_cases c2:r.1<s.1
  ·simp [c1,c2]
  ·by_cases c3:s.2.1<r.2.1
   ·simp [c1,c2,c3]
   ·by_cases c4:r.2.1<s.2.1 <;> simp [c1,c2,c3,c4]
theorem qFC(xs:List Tr)(h:xs.length<4611686018427387904):SortOk (fun p q=>some (cmpS p q)) xs where
 lt:=h
 tot:=fun a _ b _=>⟨_,rfl⟩
 irrefl:=fun a _=>by show decide (lexc (sl a) (sl a)<0)=false;rw [qhR];rfl
 trans:=fun a _ b _ c _ h1 h2=>decide_eq_true (qhv (zr h1) (zr h2))
 anti:=fun a _ b _ h1 h2=>qyB (quB (zAs h1) (zAs h2))
def RiseS(f:List Tr):Prop:=f.Pairwise fun a b=>cmpS a b<0
theorem RiseS.nodup{f:List Tr}(h:RiseS f):f.Nodup:=h.imp fun {a b} h e=>by subst e;unfold cmpS at h;rw [qhR] at h;omega
open Classical in
noncomputable def cpt(xs:List Tr):Nat->List Tr
 | 0=>[]
 | n+1=>if 0<n/\nth z3 xs n=nth z3 xs (n - 1) then cpt xs n else cpt xs n ++ [nth z3 xs n]
theorem qCf(xs:List Tr):∀ n,(cpt xs n).length<=n
 | 0=>Nat.le_refl _
 | n+1=>by
  have:=qCf xs n
  rw [cpt]
  split
  ·omega
  ·rw [zQ,zg];omega
theorem quY{xs:List Tr}:∀ n,∀ x,x∈cpt xs n↔∃ i,i<n/\nth z3 xs i=x
 | 0,x=>⟨fun h=>(by cases h),fun ⟨i,h,_⟩=>(by omega)⟩
 | n+1,x=>by
  rw [cpt]
  split
  ·rename_i q
   rw [quY n x]
   refine⟨fun ⟨i,h1,h2⟩=>⟨i,by omega,h2⟩,fun ⟨i,h1,h2⟩=>?_⟩
   by_cases e:i=n
   ·subst e;exact⟨i - 1,by omega,by rw [<- q.2];exact h2⟩
   ·exact⟨i,by omega,h2⟩
  ·rw [zL,zM,quY n x]
   refine⟨fun h=>?_,fun ⟨i,h1,h2⟩=>?_⟩
   ·rcases h with⟨i,h1,h2⟩ | h
    ·exact⟨i,by omega,h2⟩
    ·exact⟨n,by omega,h.symm⟩
   ·by_cases e:i=n
    ·subst e;exact Or.inr h2.symm
    ·exact Or.inl ⟨i,by omega,h2⟩
theorem qzs{xs:List Tr}(hs:xs.Pairwise fun a b=>¬ cmpS b a<0):∀ n,n<=xs.length->RiseS (cpt xs n)
 | 0,_=>List.Pairwise.nil
 | n+1,hn=>by
  have hr:=qzs hs n (by omega)
  rw [cpt]
  split
  ·exact hr
  ·rename_i q
   refine zBk.2 ⟨hr,by simp,fun a ha b hb=>?_⟩
   rw [zM] at hb
   subst hb
   obtain⟨i,hi,rfl⟩:=(quY n a).1 ha
   have hle:∀ i j,i<j->j<xs.length->cmpS (nth z3 xs i) (nth z3 xs j)<=0:=fun i j hij hj=>by
    have:=zAY.1 hs i j (by omega) hj hij
    rw [qcv (by omega),qcv hj]
    have h2:=qnH (sl xs[j]) (sl xs[i])
    unfold cmpS at *
    omega
   have h1:=hle i n hi (by omega)
   show cmpS (nth z3 xs i) (nth z3 xs n)<0
   rcases zBH h1 with h | h
   ·exact h
   ·exfalso
    have e:nth z3 xs i=nth z3 xs n:=qyB (qiW h)
    apply q
    refine⟨by omega,?_⟩
    by_cases e2:i=n - 1
    ·rw [<- e2];exact e.symm
    ·have h2:=hle i (n - 1) (by omega) (by omega)
     have h3:=hle (n - 1) n (by omega) (by omega)
     rw [e] at h2
     have h4:=qnH (sl (nth z3 xs (n - 1))) (sl (nth z3 xs n))
     exact qyB (qiW (by unfold cmpS at *;omega))
theorem Eq_eq{N:Nat}(hN:200000000<=N){s:Tr}(h:s.2.2.length<=4)(r:Tr):∃ b,qbD N (s,r,())=some (b,())/\(b=true↔s=r):=by
 refine⟨cmpS s r==0,?_,?_⟩
 ·simp only [qbD,qiy,show (s.1,s.2.1,s.2.2)=s from rfl,show (r.1,r.2.1,r.2.2)=r from rfl,qrY hN h r,Option.bind_some]
 ·rw [beq_iff_eq]
  exact⟨fun e=>qyB (qiW e),fun e=>by subst e;exact qhR _⟩
theorem qAw{N:Nat}(hN:200000000<=N){xs:List Tr}(hl:xs.length<=100000000)(h4:∀ s∈xs,s.2.2.length<=4):∃ ys,qF N xs=some (cpt xs xs.length,ys):=by
 have hx4:∀ i,i<xs.length->(nth z3 xs i).2.2.length<=4:=fun i hi=>h4 _ (qbJ hi)
 simp only [qF,qbh]
 have hall:∀ n,n<=xs.length->(∀ i,0<i->i<n->nth z3 xs i≠nth z3 xs (i - 1))->cpt xs n=xs.take n:=by
  intro n
  induction n with
  | zero=>intro _ _;rfl
  | succ n ih=>
   intro hn hne
   rw [cpt,zJ (fun q=>hne n q.1 (by omega) q.2),ih (by omega) fun i h0 hi=>hne i h0 (by omega),zW (by omega),qcv (by omega)]
 by_cases h2:xs.length<2
 ·rw [qy (by omega),cond_true,hall _ (Nat.le_refl _) fun i h0 hi=>by omega,zAB]
  exact⟨_,rfl⟩
 rw [qO (by omega),cond_false]
 simp only [joinD,loopE]
 refine qmR (fun r=>∃ ys,r=some (cpt xs xs.length,ys)) xs.length (fun t s=>s=((t+1:Nat):Int)/\t+1<=xs.length/\∀ i,0<i->i<t+1->nth z3 xs i≠nth z3 xs (i - 1)) ?_ ?_ (by omega) ⟨rfl,by omega,fun i _ _=>by omega⟩
 ·rintro t s ht ⟨rfl,hts,hne⟩ kn hk
  simp only [qbi]
  by_cases hlt:t+1<xs.length
  case neg=>
   rw [qO (show ¬ ((t+1:Nat):Int)<(xs.length:Int) by omega),cond_false,qbk]
   have:t+1=xs.length:=by omega
   rw [hall _ (Nat.le_refl _) fun i h0 hi=>hne i h0 (by omega),zAB]
   exact⟨_,rfl⟩
  have e1:IntKind.i64.wrap (((t+1:Nat):Int) - 1)=((t:Nat):Int):=by rw [w64 (by omega) (by omega)];omega
  have e2:IntKind.i64.wrap (((t+1:Nat):Int)+1)=((t+1+1:Nat):Int):=by rw [w64 (by omega) (by omega)];omega
  obtain⟨b,hb,hb2⟩:=Eq_eq hN (hx4 (t+1) hlt) (nth z3 xs t)
  simp only [lt_d hlt,cond_true,joinD,e1,ge0_d,lt_d (show t<xs.length by omega),Bool.and_self,Int.toNat_natCast,nth3,hb,Option.bind_some]
  cases b with
  | false=>
   simp only [cond_false,qbj,e2,qK]
   exact hk _ ⟨rfl,by omega,fun i h0 hi=>by
    by_cases e:i=t+1
    ·subst e
     intro q
     exact absurd (hb2.2 q) (by simp)
    ·exact hne i h0 (by omega)⟩
  | true=>
   have heq:=hb2.1 rfl
   rw [cond_true,qy (show ((t+1:Nat):Int)<=(xs.length:Int) by omega),Bool.and_self,cond_true]
   simp only [loopE]
   obtain⟨s,⟨k,row,rfl,hk1,hrl,hpre,-⟩,hs⟩:=qwk (N:=N) (g:=fun (s:Int×Int×List Tr) kn=>qL N (fun s=>qM N s.1 s.2) (t+1) s.1 s.2.1 s.2.2 (backE (t+1) kn)) (k:=fun s=>qM N s.1 s.2.2) (xs.length - (t+1) - 1)
    (fun u s=>∃ (k:Nat) (row:List Tr),s=((k:Int),((u+1:Nat):Int),row)/\k<=t+1+u/\row.length=xs.length/\row.take k=cpt xs (t+1+(u+1))/\∀ i,t+1+u<=i->i<xs.length->nth z3 row i=nth z3 xs i)
    (fun u s hu h=>by
     obtain⟨k,row,rfl,h1,h2,h3,h5⟩:=h
     have f1:IntKind.i64.wrap (((u+1:Nat):Int) - 1)=((u:Nat):Int):=by rw [w64 (by omega) (by omega)];omega
     have f2:IntKind.i64.wrap (((u+1:Nat):Int)+1)=((u+1+1:Nat):Int):=by rw [w64 (by omega) (by omega)];omega
     have g1:=h5 (t+1+(u+1)) (by omega) (by omega)
     have g2:=h5 (t+1+u) (by omega) (by omega)
     obtain⟨b,hb,hb2⟩:=Eq_eq hN (hx4 (t+1+(u+1)) (by omega)) (nth z3 xs (t+1+u))
     have hc:cpt xs (t+1+(u+1+1))=if nth z3 xs (t+1+(u+1))=nth z3 xs (t+1+u) then cpt xs (t+1+(u+1)) else cpt xs (t+1+(u+1)) ++ [nth z3 xs (t+1+(u+1))]:=by
      show cpt xs (t+1+(u+1)+1)=_
      rw [cpt]
      by_cases q:nth z3 xs (t+1+(u+1))=nth z3 xs (t+1+u)
      ·rw [zH q,zH ⟨by omega,q⟩]
      ·rw [zJ q,zJ fun h=>q h.2]
     have hrun:∀ kn:Int×Int×List Tr->Option qf,qL N (fun s=>qM N s.1 s.2) (t+1) (k:Int) ((u+1:Nat):Int) row (backE (t+1) kn)=bif !b then kn (((k+1:Nat):Int),((u+1+1:Nat):Int),row.set k (nth z3 xs (t+1+(u+1)))) else kn ((k:Int),((u+1+1:Nat):Int),row):=fun kn=>by
      simp only [qL,f1,f2,ge0_d,Int.toNat_natCast,lt_d (show u+1<row.length - (t+1) by omega),lt_d (show u<row.length - (t+1) by omega),lt_d (show k<row.length by omega),Bool.and_self,cond_true,nth3,g1,g2,hb,Option.bind_some,qK,ix1 (show k<100000000 by omega) (by omega)]
      rfl
     cases b with
     | true=>
      refine⟨_,⟨k,row,rfl,by omega,h2,?_,fun i hi hil=>h5 i (by omega) hil⟩,fun kn=>(hrun kn).trans rfl⟩
      rw [hc,zH (hb2.1 rfl),h3]
     | false=>
      have hne':¬ nth z3 xs (t+1+(u+1))=nth z3 xs (t+1+u):=fun q=>by have:=hb2.2 q;cases this
      refine⟨_,⟨k+1,row.set k (nth z3 xs (t+1+(u+1))),rfl,by omega,by simpa using h2,?_,fun i hi hil=>?_⟩,fun kn=>(hrun kn).trans rfl⟩
      ·rw [hc,zJ hne',<- h3,zW (by simp;omega),List.getElem_set_self,List.take_set_of_le (Nat.le_refl _)]
      ·rw [nth_set (by omega),zJ (by omega)]
       exact h5 i (by omega) hil)
    (fun s h kn=>by
     obtain⟨k,row,rfl,h1,h2,h3,h5⟩:=h
     simp only [qL]
     rw [qO (show ¬ ((xs.length - (t+1) - 1+1:Nat):Int)<((row.length - (t+1):Nat):Int) by omega),cond_false])
    (by omega) (s:=(((t+1:Nat):Int),1,xs)) ⟨t+1,xs,rfl,by omega,rfl,by
     show xs.take (t+1)=cpt xs (t+1+1)
     rw [cpt,zH ⟨by omega,heq⟩,hall (t+1) (by omega) hne],fun i _ _=>rfl⟩
   rw [hs]
   simp only [qM]
   have hkl:k<=xs.length:=by omega
   have hlen:(row.take k++List.replicate (row.length - k) z3).length=xs.length:=by simp;omega
   rw [show ((k:Int)).toNat=k from rfl,qy (show (0:Int)<=(k:Int) by omega),qy (show (k:Int)<=(row.length:Int) by omega),Bool.and_self,cond_true,qy (show (k:Int)<=((row.take k++List.replicate (row.length - k) ((0:Int),((0:Int),([]:List Int)))).length:Int) by rw [show (row.take k++List.replicate (row.length - k) ((0:Int),((0:Int),([]:List Int)))).length=xs.length from hlen];omega)]
   refine⟨row.take k++List.replicate (row.length - k) z3,?_⟩
   have hkey:((row.take k++List.replicate (row.length - k) z3).take k).drop ((0:Int)).toNat=cpt xs xs.length:=by
    rw [show ((0:Int)).toNat=0 from rfl,List.drop_zero,List.take_append_of_le_length (by simp;omega),zAe (by rw [zd];exact Nat.min_le_left _ _),hpre]
    congr 1
    omega
   simp only [show decide ((0:Int)<=0)=true from rfl,Bool.and_self,cond_true]
   exact congrArg (fun z=>some (z,row.take k++List.replicate (row.length - k) z3)) hkey
 ·rintro s ⟨rfl,hts,hne⟩ kn
  omega
structure SL (xs:List Tr):Prop where
 len:xs.length<=100000000
 ok:∀ s∈xs,qC (sm s) 4=0
 one:∀ s∈xs,s.1+s.2.2.length=(nth z3 xs 0).1+(nth z3 xs 0).2.2.length
theorem SL.p4{xs:List Tr}(h:SL xs){s:Tr}(hs:s∈xs):s.2.2.length<=4:=by
 have:=(sok (h.ok s hs)).k1
 have:=(sok (h.ok s hs)).k4
 omega
def minS(xs:List Tr)(s:Tr):Prop:=s∈xs/\∀ r∈xs,leqS r s=true->r=s
theorem qCk{N:Nat}{a:List Tr}(h:a.length<=200000000):qP N (a,())=some a:=by
 simp only [qP,qbP]
 rw [qy (by simp;omega)]
 cases a with
 | nil=>simp [dem2];rfl
 | cons x xs=>simp;rfl
noncomputable def qld(l:List Tr)(s:Tr):Bool:=@decide (∀ r∈l,leqS r s=true->r=s) (Classical.propDecidable _)
theorem qlF{l:List Tr}{s:Tr}:qld l s=true↔∀ r∈l,leqS r s=true->r=s:=by unfold qld;exact @decide_eq_true_iff _ (Classical.propDecidable _)
theorem qxE{l:List Tr}{b s:Tr}:qld (l ++ [b]) s=(qld l s&&(@decide (b=s) (Classical.propDecidable _) || !leqS b s)):=by
 classical
 rw [zBO,zA,qlF,qlF]
 refine⟨fun h=>⟨fun r hr=>h r (za _ hr),?_⟩,fun h r hr=>?_⟩
 ·have h1:=h b (zV _ (zM.2 rfl))
  cases q:leqS b s with
  | false=>simp
  | true=>rw [zz];exact Or.inl (@decide_eq_true _ (Classical.propDecidable _) (h1 q))
 ·rcases zL.1 hr with hr | hr
  ·exact h.1 r hr
  ·rw [zM] at hr
   subst hr
   intro q
   have h2:=h.2
   rw [q] at h2
   simpa using h2
theorem qCK{N:Nat}(hN:200000000<=N){xs:List Tr}(h:SL xs):∃ f,qde N (xs,())=some f/\RiseS f/\(∀ s,s∈f↔minS xs s)/\f.length<=xs.length:=by
 classical
 have hlen:=h.len
 obtain⟨ys,y1,y2⟩:=qtW (qFC xs (by omega))
 have hsort:sortR (fun p q=>(qaJ N (p,q,())).map (·.1)) xs=some ys:=qmJ (fun a ha b hb=>by rw [qrY hN (h.p4 ha) b];rfl) y1
 have hyl:ys.length=xs.length:=y2.1.length_eq
 have hym:∀ t,t∈ys↔t∈xs:=fun t=>y2.1.mem_iff
 obtain⟨zs,hcm⟩:=qAw hN (xs:=ys) (by omega) fun s hs=>h.p4 ((hym s).1 hs)
 have hL:=qzs (xs:=ys) (y2.2.imp fun {a b} h=>zAs h) ys.length (Nat.le_refl _)
 have hLl:=qCf ys ys.length
 have hLm:∀ s,s∈cpt ys ys.length↔s∈xs:=fun s=>by
  rw [quY,<- hym]
  exact⟨fun ⟨i,h1,h2⟩=>h2▸qbJ h1,fun h=>mem_nth h⟩
 generalize hLe:cpt ys ys.length=L at *
 have hnd:=hL.nodup
 let keep:Tr->Bool:=qld L
 refine⟨L.filter keep,?_,hL.sublist List.filter_sublist,fun s=>?_,zt (zAW _ _) (by omega)⟩
 ·simp only [qde,qkN,qCk (N:=N) (show xs.length<=200000000 by omega),Option.bind_some,hsort,hcm,joinD,loopE]
  refine qbS (N:=N) L.length (fun i=>((i:Int),(L.take i).filter keep)) (fun i hi kn=>?_) (fun kn=>?_) (by omega)
  ·have hp:(L[i]).2.2.length<=4:=h.p4 ((hLm _).1 (zAq hi))
   have hfl:=zAW keep (L.take i)
   rw [zd] at hfl
   have hstep:(L.take (i+1)).filter keep=(L.take i).filter keep++if keep L[i]=true then [L[i]] else []:=by
    rw [zW hi,zAc]
    congr 1
    by_cases q:keep L[i]=true
    ·rw [zH q];simp [q]
    ·rw [zJ q];simp [q]
   have hn:nth ((0:Int),((0:Int),([]:List Int))) L i=L[i]:=qcv hi
   simp only [qhE,lt_d hi,ge0_d,Bool.and_self,cond_true,joinD,Int.toNat_natCast,hn,loopE]
   obtain⟨p1,p2,p3⟩:∃ a b c,L[i]=(a,b,c):=⟨_,_,_,rfl⟩
   refine Eq.trans (congrArg (fun b=>loopD _ N (b,(0:Int))) (qlF.2 (fun r hr=>by rw [List.take_zero] at hr;cases hr):qld (L.take 0) L[i]=true).symm) (qbS (N:=N) L.length (fun j=>(qld (L.take j) L[i],(j:Int))) (k:=kn (((i+1:Nat):Int),(L.take (i+1)).filter keep)) (fun j hj kn2=>?_) (fun kn2=>?_) (by omega))
   ·have hnj:nth ((0:Int),((0:Int),([]:List Int))) L j=L[j]:=qcv hj
    have hinj:L[j]=L[i]↔i=j:=⟨fun e=>((List.getElem_inj hnd).1 e).symm,fun e=>by subst e;rfl⟩
    have hs2:qld (L.take (j+1)) L[i]=(qld (L.take j) L[i]&&(@decide (L[j]=L[i]) (Classical.propDecidable _) || !leqS L[j] L[i])):=by
     rw [zW hj];exact qxE
    simp only [qhF,lt_d hj,ge0_d,Bool.and_self,cond_true,Int.toNat_natCast,hnj,qK,ix1 hj (show L.length<=1000000000 by omega),show (L[j].1,L[j].2.1,L[j].2.2)=L[j] from rfl,show (L[i].1,L[i].2.1,L[i].2.2)=L[i] from rfl,qvf hN,Option.bind_some]
    rw [hs2]
    cases q:qld (L.take j) L[i] with
    | false=>rfl
    | true=>
     simp only [cond_true,Bool.true_and]
     by_cases q2:i=j
     ·subst q2
      rw [show ((i:Int)==(i:Int))=true from zAk _,cond_true,@decide_eq_true _ (Classical.propDecidable _) (hinj.2 rfl),Bool.true_or];rfl
     ·rw [show ((i:Int)==(j:Int))=false from zb (by omega),cond_false,@zBE _ (Classical.propDecidable _) (fun h=>q2 (hinj.1 h)),Bool.false_or];rfl
   ·simp only [qhF,qbb,cond_false,zAB]
    have hk:qld L L[i]=keep L[i]:=rfl
    rw [hk,hstep]
    simp only [qkO,qoa (N:=N) (show (L[i]).2.2.length<=200000000 by omega),Option.bind_some]
    cases q:keep L[i] with
    | false=>simp only [cond_false,qhG,qK,ix1 hi (show L.length<=1000000000 by omega),zAA,if_false,List.append_nil];rfl
    | true=>
     rw [cond_true,qy (by simp only [zg,zAW];omega),show Nat.ble 1 40=true from rfl,Bool.and_self,cond_true]
     simp only [qhG,qK,ix1 hi (show L.length<=1000000000 by omega),if_true]
     rfl
  ·simp only [qhE,qbb,cond_false,qkP,zAB]
 ·rw [zp,hLm]
  refine and_congr Iff.rfl ?_
  refine Iff.trans qlF ?_
  exact⟨fun h r hr=>h r ((hLm r).2 hr),fun h r hr=>h r ((hLm r).1 hr)⟩
theorem qwe{xs:List Tr}(h:SL xs){s:Tr}(hs:s∈xs):∃ r,minS xs r/\leqS r s=true:=by
 have key:∀ n s,s∈xs->(xs.filter fun r=>leqS r s).length<n->∃ r,minS xs r/\leqS r s=true:=by
  intro n
  induction n with
  | zero=>intro s _ h;omega
  | succ n ih=>
   intro s hs hl
   by_cases q:minS xs s
   ·exact⟨s,q,qnJ (h.ok s hs)⟩
   ·obtain⟨r,hr,hrs,hne⟩:∃ r,r∈xs/\leqS r s=true/\r≠s:=Classical.byContradiction fun hn=>q ⟨hs,fun r hr hrs=>Classical.byContradiction fun hne=>hn ⟨r,hr,hrs,hne⟩⟩
    obtain⟨m,hm,hmr⟩:=ih r hr (by
     have:=Go.Abs.filter_lt (p:=fun q=>leqS q r) (q:=fun q=>leqS q s) xs (fun x _ hx=>qjq hx hrs) ⟨s,hs,qnJ (h.ok s hs),by
      cases e:leqS s r with
      | false=>rfl
      | true=>exact absurd (qBv hrs e) hne⟩
     omega)
    exact⟨m,hm,qjq hmr hrs⟩
 exact key _ s hs (zBZ _)
end Go.Proofs.YtgnnhemoocfclaaGreatDoor.Rea
