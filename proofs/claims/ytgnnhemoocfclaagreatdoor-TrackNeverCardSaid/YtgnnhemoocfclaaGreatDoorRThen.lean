import Derived.Test.YtgnnhemoocfclaaGreatDoorRSumS
namespace Go.Proofs.YtgnnhemoocfclaaGreatDoor.Rea
open Go.Abs
open Go.Smy (Sm qC qeh qaR qw qbp leqP qbs thenS lastOf)
def tr(s:Sm):Tr:=(s.keep,s.add,s.push)
theorem qFj{N:Nat}(hN:200000000<=N)(s r:Tr):qdM N (s,r,())=if qbs (sm s) (sm r)=0 then some (tr (thenS (sm s) (sm r)),0,()) else some ((0,(0,[])),qbs (sm s) (sm r),()):=by
 have es:(s.1,s.2.1,s.2.2)=s:=rfl
 have er:(r.1,r.2.1,r.2.2)=r:=rfl
 simp only [qdM,qmf,es,er,qlv hN s 4,Option.bind_some]
 by_cases c1:qC (sm s) 4=0
 case neg=>
  have e:qbs (sm s) (sm r)=qC (sm s) 4:=by unfold qbs;rw [zH c1]
  rw [e,zJ c1,show (qC (sm s) 4 != 0)=true from bne_iff_ne.2 c1,cond_true]
 have o1:=sok c1
 rw [c1,bne_self_eq_false,cond_false,qve o1,Option.bind_some]
 simp only [qlv hN r (s.1+(s.2.2.length:Int)),Option.bind_some]
 by_cases c2:qC (sm r) (s.1+(s.2.2.length:Int))=0
 case neg=>
  have e:qbs (sm s) (sm r)=qC (sm r) (s.1+(s.2.2.length:Int)):=by unfold qbs;rw [zJ (fun h=>h c1),zH (show qC (sm r) ((sm s).keep+((sm s).push.length:Int))≠0 from c2)];rfl
  rw [e,zJ c2,show (qC (sm r) (s.1+(s.2.2.length:Int)) != 0)=true from bne_iff_ne.2 c2,cond_true]
 rw [c2,bne_self_eq_false,cond_false]
 have o2:=sok c2
 have e:qbs (sm s) (sm r)=if qaR (lastOf (sm s) (sm r))=true then 6 else 0:=by unfold qbs;rw [zJ (fun h=>h c1),zJ (show ¬ qC (sm r) ((sm s).keep+((sm s).push.length:Int))≠0 from fun h=>h c2)]
 rw [e]
 generalize hb:qaR (lastOf (sm s) (sm r))=z
 obtain⟨-,-,a3,a4,a5,a6,a7⟩:=qw.1 c1
 obtain⟨-,-,b3,b4,b5,b6,b7⟩:=qw.1 c2
 obtain⟨k,a,p⟩:=s
 obtain⟨l,b,q⟩:=r
 simp only [sm] at a3 a4 a5 a6 a7 b3 b4 b5 b6 b7
 simp only
 have w1:IntKind.i64.wrap (l - k)=l - k:=w64 (by omega) (by omega)
 have w2:IntKind.i64.wrap (b+a)=b+a:=w64 (by omega) (by omega)
 have w3:IntKind.i64.wrap (l - k - 1)=l - k - 1:=w64 (by omega) (by omega)
 simp only [w1,w2,w3]
 have hq:decide (q.length*8<=140737488355328)=true:=qy (by omega)
 by_cases h1:l=k
 ·subst h1
  have hlast:lastOf (sm (l,a,p)) (sm (l,b,q))=b+a:=by unfold lastOf;rw [zH (show (sm (l,b,q)).keep=(sm (l,a,p)).keep from rfl)];rfl
  have hthen:thenS (sm (l,a,p)) (sm (l,b,q))=⟨l,b+a,q⟩:=by unfold thenS;rw [zH (show (sm (l,b,q)).keep=(sm (l,a,p)).keep from rfl)];rfl
  rw [hlast] at hb
  rw [hthen,show (l - l==0)=true from beq_iff_eq.2 (by omega),cond_true,qkH N (b+a),Option.bind_some]
  rw [hb]
  cases z with
  | true=>rfl
  | false=>
   simp only [Bool.not_false,Bool.not_true,cond_false,hq,show Nat.ble 1 8=true from rfl,Bool.and_self,cond_true,zAA,if_false,if_true];rfl
 rw [show (l - k==0)=false from zb (by omega),cond_false]
 by_cases h2:k<l
 ·have hlast:lastOf (sm (k,a,p)) (sm (l,b,q))=nth 0 p (l - k - 1).toNat+b:=by unfold lastOf;rw [zJ (show ¬ (sm (l,b,q)).keep=(sm (k,a,p)).keep from h1),zH (show (sm (k,a,p)).keep<(sm (l,b,q)).keep from h2)];rfl
  have hthen:thenS (sm (k,a,p)) (sm (l,b,q))=⟨k,a,(p.take (l - k).toNat).set ((l - k).toNat - 1) (nth 0 p (l - k - 1).toNat+b)++q⟩:=by unfold thenS;rw [zJ (show ¬ (sm (l,b,q)).keep=(sm (k,a,p)).keep from h1),zH (show (sm (k,a,p)).keep<(sm (l,b,q)).keep from h2)];rfl
  have hc:qB N ((p.take (l - k).toNat).drop (0:Int).toNat,())=some (p.take (l - k).toNat):=qoa (by simp;omega)
  have hlen:(p.take (l - k).toNat).length=(l - k).toNat:=by simp;omega
  have hx:=a7 (l - k - 1).toNat (by omega)
  rw [nthI] at hx
  have hn:nth 0 (p.take (l - k).toNat) (l - k - 1).toNat=nth 0 p (l - k - 1).toNat:=Go.Smy.nth_take p _ _ (by omega)
  have w4:IntKind.i64.wrap (nth 0 p (l - k - 1).toNat+b)=nth 0 p (l - k - 1).toNat+b:=w64 (by omega) (by omega)
  have hs:nth 0 ((p.take (l - k).toNat).set (l - k - 1).toNat (nth 0 p (l - k - 1).toNat+b)) (l - k - 1).toNat=nth 0 p (l - k - 1).toNat+b:=
   (Go.Smy.nth_set (p.take (l - k).toNat) (l - k - 1).toNat (l - k - 1).toNat (nth 0 p (l - k - 1).toNat+b)).trans (zH ⟨rfl,by omega⟩)
  rw [hlast] at hb
  rw [hthen,qy (show l - k>0 by omega),cond_true,qy (show (0:Int)<=l - k by omega),qy (show l - k<=(p.length:Int) by omega)]
  simp only [show decide ((0:Int)<=0)=true from rfl,Bool.and_self,cond_true,hc,Option.bind_some,hlen,hn,w4,hs]
  rw [qy (show (0:Int)<=l - k - 1 by omega),qy (show l - k - 1<(((l - k).toNat:Nat):Int) by omega)]
  simp only [Bool.and_self,cond_true,qkH N (nth 0 p (l - k - 1).toNat+b),Option.bind_some]
  rw [hb]
  cases z with
  | true=>rfl
  | false=>
   simp only [Bool.not_false,Bool.not_true,cond_false,zAb,hlen]
   rw [qy (show ((l - k).toNat+q.length)*8<=140737488355328 by omega),show (l - k - 1).toNat=(l - k).toNat - 1 by omega];rfl
 ·have hlast:lastOf (sm (k,a,p)) (sm (l,b,q))=b:=by unfold lastOf;rw [zJ (show ¬ (sm (l,b,q)).keep=(sm (k,a,p)).keep from h1),zJ (show ¬ (sm (k,a,p)).keep<(sm (l,b,q)).keep from h2)];rfl
  have hthen:thenS (sm (k,a,p)) (sm (l,b,q))=⟨l,b,q⟩:=by unfold thenS;rw [zJ (show ¬ (sm (l,b,q)).keep=(sm (k,a,p)).keep from h1),zJ (show ¬ (sm (k,a,p)).keep<(sm (l,b,q)).keep from h2)];rfl
  rw [hlast] at hb
  rw [hthen,qO (show ¬ l - k>0 by omega),cond_false,qkH N b,Option.bind_some]
  rw [hb]
  cases z with
  | true=>rfl
  | false=>
   simp only [Bool.not_false,Bool.not_true,cond_false,hq,show Nat.ble 1 8=true from rfl,Bool.and_self,cond_true,zAA,if_false,if_true];rfl
end Go.Proofs.YtgnnhemoocfclaaGreatDoor.Rea
