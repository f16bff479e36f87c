import Derived.Test.YtcjecibocjbdmaaWirA
import Derived.Test.YtcjecibocjbdmaaWirP
import Derived.Test.YtcjecibocjbdmaaHisT
noncomputable section
namespace Go.Proofs.Ytcjecibocjbdmaa
open Go.Abs Go.Bag Go.His Go.Wir
def limN:Nat->Int
 | 0=>18446744073709551616
 | i+1=>limN i / 128
theorem u64_range(n:Int):0<=IntKind.u64.wrap n/\IntKind.u64.wrap n<18446744073709551616:=by
 have h:IntKind.u64.wrap n=n % 18446744073709551616:=by
  unfold IntKind.wrap
  simp [IntKind.signed,IntKind.bits]
 rw [h];omega
theorem Num_eq{N:Nat}(hN:1000<=N)(n:Int):∃ bs,D_wire_Num N (n,())=some bs/\1<=bs.length/\bs.length<=10/\∀ x∈bs,Byt x:=by
 simp only [D_wire_Num,wire_Num_3,show decide ((1:Int)<0)=false from rfl,show decide ((63:Int)<0)=false from rfl,cond_false,joinD,loopE]
 have hx:0<=ixor .u64 (ishl .u64 (IntKind.u64.wrap n) 1) (IntKind.u64.wrap (ishr .i64 n 63))/\ixor .u64 (ishl .u64 (IntKind.u64.wrap n) 1) (IntKind.u64.wrap (ishr .i64 n 63))<18446744073709551616:=u64_range _
 generalize ixor .u64 (ishl .u64 (IntKind.u64.wrap n) 1) (IntKind.u64.wrap (ishr .i64 n 63))=v0 at hx
 refine loopD_post (fun s=>∃ (v:Int) (bs:List Int),s=(v,bs)/\bs.length<=9/\0<=v/\v<limN bs.length/\∀ x∈bs,Byt x) (fun s=>10 - s.2.length) (fun r:Option (List Int)=>∃ bs:List Int,r=some bs/\1<=bs.length/\bs.length<=10/\∀ x∈bs,Byt x) ?_ N _ ⟨v0,[],rfl,by simp,hx.1,hx.2,fun x hx=>by cases hx⟩ (by simp;omega)
 rintro s ⟨v,bs,rfl,hl,h0,h1,hb⟩ kn hkn
 simp only [wire_Num_2]
 by_cases q:v>=128
 ·rw [d_true q,cond_true]
  have hs:ishr .u64 v 7=v / 128:=by
   unfold ishr
   have:(2:Int) ^ (min (7:Int).toNat IntKind.u64.bits)=128:=by decide
   rw [this,zAU _ (by decide)]
  have h8:bs.length<=8/\v / 128<limN (bs.length+1):=by
   have e:limN (bs.length+1)=limN bs.length / 128:=rfl
   rcases (by omega:bs.length=0\/bs.length=1\/bs.length=2\/bs.length=3\/bs.length=4\/bs.length=5\/bs.length=6\/bs.length=7\/bs.length=8\/bs.length=9) with g | g | g | g | g | g | g | g | g | g <;> (rw [e,g];rw [g] at h1;simp only [limN] at h1 ⊢;omega)
  rw [d_true (show (bs.length+([ior .u8 (IntKind.u8.wrap v) 128]:List Int).length)*1<=140737488355328 by simp only [zt];omega),show Nat.ble 1 1=true from rfl,Bool.and_self,cond_true,show decide ((7:Int)<0)=false from rfl,cond_false,backE_eq,hs]
  refine hkn _ ⟨v / 128,bs ++ [ior .u8 (IntKind.u8.wrap v) 128],rfl,by simp;omega,by omega,by simpa using h8.2,fun x hx=>?_⟩ (by simp;omega)
  rcases zW.1 hx with hx | hx
  ·exact hb x hx
  ·rw [zAT] at hx;rw [hx];exact byt_ior _ _
 ·rw [d_false q,cond_false]
  simp only [wire_Num_1]
  rw [d_true (show (bs.length+([IntKind.u8.wrap v]:List Int).length)*1<=140737488355328 by simp only [zt];omega),show Nat.ble 1 1=true from rfl,Bool.and_self,cond_true]
  refine⟨_,rfl,by simp,by simp;omega,fun x hx=>?_⟩
  rcases zW.1 hx with hx | hx
  ·exact hb x hx
  ·rw [zAT] at hx;rw [hx];exact byt_wrap _
def numB(N:Nat)(n:Int):List Int:=(D_wire_Num N (n,())).getD []
theorem Num_eq'{N:Nat}(hN:1000<=N)(n:Int):∃ bs,D_wire_Num N (n,())=some bs/\1<=bs.length/\bs.length<=10/\(∀ x∈bs,Byt x)/\bs=numB N n:=by
 obtain⟨bs,h1,h2,h3,h4⟩:=Num_eq hN n
 exact⟨bs,h1,h2,h3,h4,by unfold numB;rw [h1];rfl⟩
def rowB(N:Nat)(r:Row):List Int:=[r.1,r.2.1,r.2.2].flatMap (numB N)
def difB(N:Nat)(d:Df):List Int:=numB N (d.1.length:Int)++d.1.flatMap (numB N)++(numB N (d.2.length:Int)++d.2.flatMap (rowB N))
def hisB(N:Nat)(h:List Df):List Int:=numB N (h.length:Int)++h.flatMap (difB N)
theorem numsA_eq{N:Nat}(hN:1000<=N){l:List Int}(hl:l.length<=900):∃ bs,D_wire_nums_int_h N l=some (l,bs)/\bs.length<=10*l.length/\(∀ x∈bs,Byt x)/\bs=l.flatMap (numB N):=by
 simp only [D_wire_nums_int_h,wire_nums_int_h_3,joinD,loopE]
 obtain⟨s,⟨bs,rfl,g1,g2,g3⟩,hs⟩:=loopD_inv (N:=N) (g:=fun (s:Int×List Int) kn=>wire_nums_int_h_2 N (fun s=>wire_nums_int_h_1 N s.1 s.2) (l.length:Int) l s.1 s.2 (backE ((l.length:Int),l) kn)) (k:=fun s=>some (l,s.2)) l.length
  (fun i s=>∃ bs:List Int,s=((i:Int),bs)/\bs.length<=10*i/\(∀ x∈bs,Byt x)/\bs=(l.take i).flatMap (numB N))
  (fun i s hi hI=>by
   obtain⟨bs,rfl,g1,g2,g3⟩:=hI
   obtain⟨cs,c1,c2,c3,c4,c5⟩:=Num_eq' hN (nth 0 l i)
   refine⟨_,⟨bs++cs,rfl,by simp;omega,fun x hx=>?_,by rw [take_nth (z:=0) hi,zAc,<- g3,zAV,<- c5]⟩,fun kn=>?_⟩
   ·rcases zW.1 hx with hx | hx
    ·exact g2 x hx
    ·exact c4 x hx
   ·simp only [wire_nums_int_h_2,lt_d hi,ge0_d,Bool.and_self,cond_true,Int.toNat_natCast,c1,Option.bind_some,d_true (show (bs.length+cs.length)*1<=140737488355328 by omega),show Nat.ble 1 1=true from rfl,backE_eq,ix1 hi (show l.length<=4611686018427387904 by omega)]
    rfl)
  (fun s hI kn=>by
   obtain⟨bs,rfl,_⟩:=hI
   simp only [wire_nums_int_h_2,lt_self,cond_false,wire_nums_int_h_1])
  (by omega) (s:=(0,[])) ⟨[],rfl,zw _,fun x hx=>(by cases hx),by simp⟩
 rw [zAI] at g3
 exact⟨bs,hs,g1,g2,g3⟩
theorem numsB_eq{N:Nat}(hN:1000<=N){acc l:List Int}(hl:l.length<=900)(ha:acc.length<=100000):∃ bs,D_wire_nums_int_h2 N (acc,l)=some (acc++bs,l)/\bs.length<=10*l.length/\(∀ x∈bs,Byt x)/\bs=l.flatMap (numB N):=by
 simp only [D_wire_nums_int_h2,wire_nums_int_h2_3,joinD,loopE]
 obtain⟨s,⟨bs,rfl,g1,g2,g3⟩,hs⟩:=loopD_inv (N:=N) (g:=fun (s:Int×List Int) kn=>wire_nums_int_h2_2 N (fun s=>wire_nums_int_h2_1 N s.1 s.2) (l.length:Int) l s.1 s.2 (backE ((l.length:Int),l) kn)) (k:=fun s=>some (s.2,l)) l.length
  (fun i s=>∃ bs:List Int,s=((i:Int),acc++bs)/\bs.length<=10*i/\(∀ x∈bs,Byt x)/\bs=(l.take i).flatMap (numB N))
  (fun i s hi hI=>by
   obtain⟨bs,rfl,g1,g2,g3⟩:=hI
   obtain⟨cs,c1,c2,c3,c4,c5⟩:=Num_eq' hN (nth 0 l i)
   refine⟨_,⟨bs++cs,rfl,by simp;omega,fun x hx=>?_,by rw [take_nth (z:=0) hi,zAc,<- g3,zAV,<- c5]⟩,fun kn=>?_⟩
   ·rcases zW.1 hx with hx | hx
    ·exact g2 x hx
    ·exact c4 x hx
   ·simp only [wire_nums_int_h2_2,lt_d hi,ge0_d,Bool.and_self,cond_true,Int.toNat_natCast,c1,Option.bind_some,d_true (show ((acc++bs).length+cs.length)*1<=140737488355328 by rw [zY];omega),show Nat.ble 1 1=true from rfl,backE_eq,ix1 hi (show l.length<=4611686018427387904 by omega)]
    rw [zN]
    rfl)
  (fun s hI kn=>by
   obtain⟨bs,rfl,_⟩:=hI
   simp only [wire_nums_int_h2_2,lt_self,cond_false,wire_nums_int_h2_1])
  (by omega) (s:=(0,acc)) ⟨[],by simp,zw _,fun x hx=>(by cases hx),by simp⟩
 rw [zAI] at g3
 exact⟨bs,hs,g1,g2,g3⟩
theorem numsC_eq{N:Nat}(hN:1000<=N){acc l:List Int}(hl:l.length<=900)(ha:acc.length<=100000):∃ bs,D_wire_nums_int_h3 N (l,acc)=some (acc++bs)/\bs.length<=10*l.length/\(∀ x∈bs,Byt x)/\bs=l.flatMap (numB N):=by
 simp only [D_wire_nums_int_h3,wire_nums_int_h3_3,joinD,loopE]
 obtain⟨s,⟨bs,rfl,g1,g2,g3⟩,hs⟩:=loopD_inv (N:=N) (g:=fun (s:Int×List Int) kn=>wire_nums_int_h3_2 N (fun s=>wire_nums_int_h3_1 N s) l (l.length:Int) s.1 s.2 (backE (l,(l.length:Int)) kn)) (k:=fun s=>some s.2) l.length
  (fun i s=>∃ bs:List Int,s=((i:Int),acc++bs)/\bs.length<=10*i/\(∀ x∈bs,Byt x)/\bs=(l.take i).flatMap (numB N))
  (fun i s hi hI=>by
   obtain⟨bs,rfl,g1,g2,g3⟩:=hI
   obtain⟨cs,c1,c2,c3,c4,c5⟩:=Num_eq' hN (nth 0 l i)
   refine⟨_,⟨bs++cs,rfl,by simp;omega,fun x hx=>?_,by rw [take_nth (z:=0) hi,zAc,<- g3,zAV,<- c5]⟩,fun kn=>?_⟩
   ·rcases zW.1 hx with hx | hx
    ·exact g2 x hx
    ·exact c4 x hx
   ·simp only [wire_nums_int_h3_2,lt_d hi,ge0_d,Bool.and_self,cond_true,Int.toNat_natCast,c1,Option.bind_some,d_true (show ((acc++bs).length+cs.length)*1<=140737488355328 by rw [zY];omega),show Nat.ble 1 1=true from rfl,backE_eq,ix1 hi (show l.length<=4611686018427387904 by omega)]
    rw [zN]
    rfl)
  (fun s hI kn=>by
   obtain⟨bs,rfl,_⟩:=hI
   simp only [wire_nums_int_h3_2,lt_self,cond_false,wire_nums_int_h3_1])
  (by omega) (s:=(0,acc)) ⟨[],by simp,zw _,fun x hx=>(by cases hx),by simp⟩
 rw [zAI] at g3
 exact⟨bs,hs,g1,g2,g3⟩
theorem numsD_eq{N:Nat}(hN:1000<=N){acc l:List Int}(hl:l.length<=900)(ha:acc.length<=100000):∃ bs,D_wire_nums_int64_h N (acc,l)=some (acc++bs,l)/\bs.length<=10*l.length/\(∀ x∈bs,Byt x)/\bs=l.flatMap (numB N):=by
 simp only [D_wire_nums_int64_h,wire_nums_int64_h_3,joinD,loopE]
 obtain⟨s,⟨bs,rfl,g1,g2,g3⟩,hs⟩:=loopD_inv (N:=N) (g:=fun (s:Int×List Int) kn=>wire_nums_int64_h_2 N (fun s=>wire_nums_int64_h_1 N s.1 s.2) (l.length:Int) l s.1 s.2 (backE ((l.length:Int),l) kn)) (k:=fun s=>some (s.2,l)) l.length
  (fun i s=>∃ bs:List Int,s=((i:Int),acc++bs)/\bs.length<=10*i/\(∀ x∈bs,Byt x)/\bs=(l.take i).flatMap (numB N))
  (fun i s hi hI=>by
   obtain⟨bs,rfl,g1,g2,g3⟩:=hI
   obtain⟨cs,c1,c2,c3,c4,c5⟩:=Num_eq' hN (nth 0 l i)
   refine⟨_,⟨bs++cs,rfl,by simp;omega,fun x hx=>?_,by rw [take_nth (z:=0) hi,zAc,<- g3,zAV,<- c5]⟩,fun kn=>?_⟩
   ·rcases zW.1 hx with hx | hx
    ·exact g2 x hx
    ·exact c4 x hx
   ·simp only [wire_nums_int64_h_2,lt_d hi,ge0_d,Bool.and_self,cond_true,Int.toNat_natCast,c1,Option.bind_some,d_true (show ((acc++bs).length+cs.length)*1<=140737488355328 by rw [zY];omega),show Nat.ble 1 1=true from rfl,backE_eq,ix1 hi (show l.length<=4611686018427387904 by omega)]
    rw [zN]
    rfl)
  (fun s hI kn=>by
   obtain⟨bs,rfl,_⟩:=hI
   simp only [wire_nums_int64_h_2,lt_self,cond_false,wire_nums_int64_h_1])
  (by omega) (s:=(0,acc)) ⟨[],by simp,zw _,fun x hx=>(by cases hx),by simp⟩
 rw [zAI] at g3
 exact⟨bs,hs,g1,g2,g3⟩
theorem Sum_eq{N:Nat}{b:List Int}(hl:b.length<N)(hl2:b.length<=1000000)(hb:∀ x∈b,Byt x):D_wire_Sum N (b,())=some (smA b,()):=by
 simp only [D_wire_Sum,wire_Sum_3,joinD,loopE]
 rw [w64 (show -9223372036854775808<=(b.length:Int) - 1 by omega) (by omega)]
 have hp:=loopD_path (N:=N) (g:=fun (s:Int×Int×Int) kn=>wire_Sum_2 N (fun s=>wire_Sum_1 N s) b s.1 s.2.1 s.2.2 (backE b kn)) b.length (fun i=>(smS (b.drop (b.length - i)),smA (b.drop (b.length - i)),((b.length - i:Nat):Int) - 1)) (k:=some (smA b,())) (fun i hi kn=>by
   have hj:b.length - i - 1<b.length:=by omega
   have hbj:=hb _ (nth_mem (z:=(0:Int)) hj)
   have hd:b.drop (b.length - i - 1)=nth 0 b (b.length - i - 1) :: b.drop (b.length - i):=by
    rw [zAG hj,nth_lt hj,show b.length - i - 1+1=b.length - i by omega]
   have e1:b.length - (i+1)=b.length - i - 1:=by omega
   have l1:=smS_lt (b.drop (b.length - i))
   have l2:=smA_lt (b.drop (b.length - i))
   obtain⟨x1,x2⟩:=hbj
   have hc:(((b.length - i:Nat):Int) - 1).toNat=b.length - i - 1:=by omega
   have t1:(IntKind.i64.wrap (smS (b.drop (b.length - i))+IntKind.i64.wrap (nth 0 b (b.length - i - 1)))).tmod 65521=smS (b.drop (b.length - (i+1))):=by
    rw [w64 (n:=nth 0 b (b.length - i - 1)) (by omega) (by omega),w64 (by omega) (by omega),e1,hd,smS,zCL (by omega)]
   have l3:=smS_lt (b.drop (b.length - (i+1)))
   have t2:(IntKind.i64.wrap (smA (b.drop (b.length - i))+smS (b.drop (b.length - (i+1))))).tmod 65521=smA (b.drop (b.length - (i+1))):=by
    rw [w64 (by omega) (by omega),zCL (by omega),e1,hd,smA,smS]
   simp only [wire_Sum_2]
   rw [d_true (show ((b.length - i:Nat):Int) - 1>=0 by omega),cond_true,d_true (show ((b.length - i:Nat):Int) - 1<(b.length:Int) by omega),Bool.and_self,cond_true,show ((65521:Int)==0)=false from rfl,cond_false,cond_false,hc,t1,t2,backE_eq,w64 (by omega) (by omega),show ((b.length - i:Nat):Int) - 1 - 1=((b.length - (i+1):Nat):Int) - 1 by omega]) (fun kn=>by
   simp only [wire_Sum_2,zBP]
   rw [d_false (show ¬ ((0:Nat):Int) - 1>=0 by omega),cond_false]
   simp only [wire_Sum_1,List.drop_zero]) hl
 rw [Nat.sub_zero,List.drop_length] at hp
 exact hp
theorem bytesOf_eq{N:Nat}(hN:100000<=N){h:List Df}(H:HOkk h):∃ body,D_wire_bytesOf N (h,())=some (body ++ [IntKind.u8.wrap (smA body),IntKind.u8.wrap (ishr .i64 (smA body) 8)])/\body.length<=7690/\(∀ x∈body,Byt x)/\body=hisB N h:=by
 have h64:=H.len
 have h128:=H.rows
 obtain⟨b0,z1,z2,z3,z4⟩:=numsA_eq (N:=N) (by omega) (l:=[(h.length:Int)]) (by simp)
 simp only [D_wire_bytesOf,wire_bytesOf_5,z1,Option.bind_some,joinD,loopE]
 have hmono:∀ i,cntR (h.take i)<=cntR h:=fun i=>by
  have:cntR h=cntR (h.take i)+cntR (h.drop i):=by
   conv=>lhs;rw [<- zAR i h]
   unfold cntR;rw [zAa,zBi]
  omega
 obtain⟨s,⟨bs,rfl,g1,g2,g3⟩,hs⟩:=loopD_inv (N:=N) (g:=fun (s:Int×List Int) kn=>wire_bytesOf_4 N (fun s=>wire_bytesOf_1 N s) h (h.length:Int) s.1 s.2 (backE (h,(h.length:Int)) kn)) (k:=fun s=>wire_bytesOf_1 N s.2) h.length
  (fun i s=>∃ bs:List Int,s=((i:Int),bs)/\bs.length<=10+60*i+30*cntR (h.take i)/\(∀ x∈bs,Byt x)/\bs=numB N (h.length:Int)++(h.take i).flatMap (difB N))
  (fun i s hi hI=>by
   obtain⟨bs,rfl,g1,g2,g3⟩:=hI
   have hm:=hmono i
   obtain⟨d,hd⟩:∃ d,d=nth zd h i:=⟨_,rfl⟩
   have hdm:d∈h:=by rw [hd];exact nth_mem hi
   have ht4:=tok4 (H.tok hdm)
   have hr:=H.row hdm
   obtain⟨c1,p1,p2,p3,p4⟩:=numsB_eq (N:=N) (by omega) (acc:=bs) (l:=[(d.1.length:Int)]) (by simp) (by omega)
   obtain⟨c2,q1,q2,q3,q4⟩:=numsC_eq (N:=N) (by omega) (acc:=bs++c1) (l:=d.1) (by omega) (by simp at p2;simp;omega)
   obtain⟨c3,r1,r2,r3,r4⟩:=numsB_eq (N:=N) (by omega) (acc:=bs++c1++c2) (l:=[(d.2.length:Int)]) (by simp) (by simp at p2;simp;omega)
   simp only [zt] at p2 r2
   obtain⟨st,⟨cs,rfl,k1,k2,k3⟩,hk⟩:=loopD_invk (N:=N) (fun (K9:List Df×Int×Int×List Int->Option Rt_wire_bytesOf) (s:Int×List Int) kn=>wire_bytesOf_3 N K9 h (h.length:Int) (i:Int) d.2 (d.2.length:Int) s.1 s.2 (backE (h,(h.length:Int),(i:Int),d.2,(d.2.length:Int)) kn)) (fun K9 s=>K9 (h,(h.length:Int),(i:Int),s.2)) d.2.length
    (fun j s=>∃ cs:List Int,s=((j:Int),cs)/\cs.length<=(bs++c1++c2++c3).length+30*j/\(∀ x∈cs,Byt x)/\cs=bs++c1++c2++c3++(d.2.take j).flatMap (rowB N))
    (fun j s hj hJ=>by
     obtain⟨cs,rfl,k1,k2,k3⟩:=hJ
     simp only [zY] at k1
     obtain⟨e,e1,e2,e3,e4⟩:=numsD_eq (N:=N) (by omega) (acc:=cs) (l:=[(nth ((0:Int),(0:Int),(0:Int)) d.2 j).1,(nth ((0:Int),(0:Int),(0:Int)) d.2 j).2.1,(nth ((0:Int),(0:Int),(0:Int)) d.2 j).2.2]) (by simp) (by omega)
     refine⟨_,⟨cs++e,rfl,?_,fun x hx=>?_,by rw [take_nth (z:=((0:Int),(0:Int),(0:Int))) hj,zAc,zAV,<- zN,<- k3,e4];rfl⟩,fun K9 kn=>?_⟩
     ·simp only [zY] at e2 ⊢
      have:e.length<=30:=by simpa using e2
      omega
     ·rcases zW.1 hx with hx | hx
      ·exact k2 x hx
      ·exact e3 x hx
     ·simp only [wire_bytesOf_3,lt_d hj,ge0_d,Bool.and_self,cond_true,Int.toNat_natCast,e1,Option.bind_some,backE_eq,ix1 hj (show d.2.length<=4611686018427387904 by omega)]
      rfl)
    (fun s hJ K9 kn=>by
     obtain⟨cs,rfl,_⟩:=hJ
     simp only [wire_bytesOf_3,lt_self,cond_false])
    (by omega) (s:=(0,bs++c1++c2++c3)) ⟨_,rfl,zCB _ _,fun x hx=>by
     simp only [zW] at hx
     rcases hx with ((hx | hx) | hx) | hx
     ·exact g2 x hx
     ·exact p3 x hx
     ·exact q3 x hx
     ·exact r3 x hx,by simp⟩
   simp only [zY] at k1
   have hcr:=cntR_take hi
   rw [<- hd] at hcr
   refine⟨_,⟨cs,rfl,by rw [hcr];omega,k2,by
    rw [zAI] at k3
    rw [k3,take_nth (z:=zd) hi,<- hd,zAc,zAV,g3,p4,q4,r4]
    simp only [difB,zAV,zN]⟩,fun kn=>?_⟩
   simp only [wire_bytesOf_4,lt_d hi,ge0_d,Bool.and_self,cond_true,Int.toNat_natCast,joinD,<- hd,p1,q1,r1,Option.bind_some,loopE]
   refine (hk _).trans ?_
   simp only [wire_bytesOf_2,backE_eq,ix1 hi (show h.length<=4611686018427387904 by omega)]
   rfl)
  (fun s hI kn=>by
   obtain⟨bs,rfl,_⟩:=hI
   simp only [wire_bytesOf_4,lt_self,cond_false,joinD])
  (by omega) (s:=(0,b0)) ⟨b0,rfl,by simp at z2;omega,z3,by rw [z4];simp⟩
 rw [zAI] at g1 g3
 refine⟨bs,hs.trans ?_,by omega,g2,g3⟩
 simp only [wire_bytesOf_1,Sum_eq (N:=N) (b:=bs) (by omega) (by omega) g2,Option.bind_some,show decide ((8:Int)<0)=false from rfl,cond_false]
 rw [d_true (by simp only [List.length_cons,List.length_nil];omega),show Nat.ble 1 1=true from rfl,Bool.and_self,cond_true]
end Go.Proofs.Ytcjecibocjbdmaa
end
