import Derived.Test.YtgnnhemoocfclaaDoorRTim
import Derived.Test.YtgnnhemoocfclaaDoorTimesP
import Derived.Test.YtgnnhemoocfclaaDoorAbsLat
namespace Go.Proofs.YtgnnhemoocfclaaDoor.Rea
open Go.Abs
theorem lt_d{i m:Nat}(h:i<m):decide ((i:Int)<(m:Int))=true:=qA (by omega)
theorem qbr(m:Nat):decide ((m:Int)<(m:Int))=false:=qK (by omega)
theorem ge0_d(i:Nat):decide ((0:Int)<=(i:Int))=true:=qA (by omega)
theorem mem_nth{α:Type}{z a:α}{xs:List α}(h:a∈xs):∃ t,t<xs.length/\nth z xs t=a:=by
 obtain⟨t,ht,e⟩:=zAY h
 exact⟨t,ht,by rw [qcU ht,e]⟩
def tok(t:List Int):Bool:=decide (1<=t.length)&&decide (t.length<=4)&&t.all fun x=>decide (0<=x)&&decide (x<=1048576)
theorem qvH{t:List Int}(h:tok t=true):1<=t.length/\t.length<=4:=by
 simp only [tok,zB,zP] at h;exact h.1
theorem ix1{n i:Nat}(h:i<n)(hn:n<=1000000000):IntKind.i64.wrap ((i:Int)+1)=(i:Int)+1:=w64 (by omega) (by omega)
theorem Check_eq{N:Nat}(hN:200000000<=N)(t:List Int):∃ e,qcG N (t,())=some (e,())/\(e=0↔tok t=true):=by
 simp only [qcG,qjE]
 by_cases h0:t.length=0
 ·refine⟨1,?_,by simp [tok,h0]⟩
  rw [show ((t.length:Int)==0)=true from by rw [beq_iff_eq];omega,cond_true]
 rw [show ((t.length:Int)==0)=false from zW (by omega),cond_false]
 by_cases h4:4<t.length
 ·refine⟨1,?_,by simp [tok];omega⟩
  rw [qA (by omega),cond_true]
 rw [qK (by omega),cond_false]
 simp only [joinD,loopE]
 have hbody:∀ i,i<t.length->∀ kn,qeN N (fun _=>qgU N) t (t.length:Int) (i:Int) (backE (t,(t.length:Int)) kn)=if 0<=nth 0 t i/\nth 0 t i<=1048576 then kn ((i:Int)+1) else some (2,()):=fun i hi kn=>by
  simp only [qeN,lt_d hi,ge0_d,Bool.and_self,cond_true,Int.toNat_natCast,qU,ix1 hi (by omega)]
  by_cases q1:nth 0 t i<0
  ·rw [qA q1,cond_true,zK (by omega)]
  ·rw [qK q1,cond_false]
   by_cases q2:nth 0 t i>1048576
   ·rw [qA q2,cond_true,zK (by omega)]
   ·rw [qK q2,cond_false,zH (by omega)]
 have hall:(t.all fun x=>decide (0<=x)&&decide (x<=1048576))=true↔∀ i,i<t.length->0<=nth 0 t i/\nth 0 t i<=1048576:=by
  rw [zo]
  constructor
  ·intro h i hi
   simpa using h _ (qbI (z:=0) hi)
  ·intro h x hx
   obtain⟨i,hi,rfl⟩:=mem_nth (z:=(0:Int)) hx
   simpa using h i hi
 have htok:tok t=true↔∀ i,i<t.length->0<=nth 0 t i/\nth 0 t i<=1048576:=by
  rw [<- hall];simp [tok];omega
 by_cases hg:∀ i,i<t.length->0<=nth 0 t i/\nth 0 t i<=1048576
 ·refine⟨0,qdX (n:=t.length) (by omega) (fun i hi kn=>by rw [hbody i hi,zH (hg i hi)]) (fun kn=>by simp only [qeN,qbr,cond_false,qgU]) (by omega),by rw [htok];exact⟨fun _=>hg,fun _=>rfl⟩⟩
 ·refine⟨2,qjX (n:=t.length) (by omega) (fun i=>¬ (0<=nth 0 t i/\nth 0 t i<=1048576)) (fun i hi hb kn=>by rw [hbody i hi,zK hb]) (fun i hi hb kn=>by rw [hbody i hi,zH (Classical.not_not.1 hb)]) (by omega) ?_,by rw [htok];exact⟨fun h=>absurd h (by decide),fun h=>absurd h hg⟩⟩
  exact Classical.byContradiction fun hn=>hg fun i hi=>Classical.byContradiction fun hb=>hn ⟨i,hi,hb⟩
theorem quN(N:Nat)(x y:Int):qac N (x,y,())=some (if x<y then -1 else if y<x then 1 else 0,()):=by
 simp only [qac,qgP,qbQ,qif,bne_self_eq_false,Option.bind_some,cond_false]
 by_cases h1:x<y
 ·rw [qA h1,cond_true,zH h1]
 ·rw [qK h1,cond_false,zK h1]
  by_cases h2:y<x
  ·rw [qA h2,cond_true,zH h2]
  ·rw [qK h2,cond_false,zK h2]
theorem qwC{a b:List Int}{i:Nat}(h1:i<a.length)(h2:i<b.length):lexc (a.drop i) (b.drop i)=if nth 0 a i<nth 0 b i then -1 else if nth 0 b i<nth 0 a i then 1 else lexc (a.drop (i+1)) (b.drop (i+1)):=by
 rw [zAb h1,zAb h2,qcU h1,qcU h2]
 rfl
theorem qpy{N:Nat}{a b:List Int}(h1:a.length<=4)(hN:200000000<=N):qQ N (a,b,())=some (lexc a b,()):=by
 simp only [qQ,qcS,joinD,loopE]
 refine qfq (fun s=>∃ i:Nat,s=(i:Int)/\i<=a.length/\i<=b.length/\lexc (a.drop i) (b.drop i)=lexc a b) (fun s=>a.length - s.toNat) _ ?_ N _ ⟨0,rfl,zy _,zy _,rfl⟩ (by simp;omega)
 rintro s ⟨i,rfl,hi,hib,hx⟩ kn hkn
 by_cases hia:i<a.length
 ·simp only [qbA,lt_d hia,ge0_d,Bool.and_self,cond_true,Int.toNat_natCast]
  by_cases hb:i<b.length
  ·rw [qK (by omega),cond_false,quN,Option.bind_some,lt_d hb,Bool.and_self,cond_true]
   rw [qwC hia hb] at hx
   by_cases q1:nth 0 a i<nth 0 b i
   ·rw [zH q1] at hx ⊢
    rw [<- hx];rfl
   ·rw [zK q1] at hx ⊢
    by_cases q2:nth 0 b i<nth 0 a i
    ·rw [zH q2] at hx ⊢
     rw [<- hx];rfl
    ·rw [zK q2] at hx ⊢
     simp only [bne_self_eq_false,cond_false,qU,ix1 hia (by omega)]
     exact hkn _ ⟨i+1,rfl,by omega,by omega,hx⟩ (by simp;omega)
  ·rw [qA (by omega),cond_true,<- hx,zAG (l:=b) (by omega),zAb hia]
   rfl
 ·have hia:i=a.length:=by omega
  subst hia
  simp only [qbA,qbr,cond_false,qcT]
  rw [<- hx,zAG (Nat.le_refl _)]
  by_cases hb:a.length<b.length
  ·rw [qA (by omega),cond_true,zAb hb];rfl
  ·rw [qK (by omega),cond_false,zAG (by omega)];rfl
theorem qqG{N:Nat}{a:List Int}(h:a.length<=200000000):qF N (a,())=some a:=by
 simp only [qF,qdz]
 rw [qA (by simp;omega)]
 cases a with
 | nil=>simp [dem2];rfl
 | cons x xs=>simp;rfl
theorem qmp{α:Type}{D D':α->α->Option Int}{xs ys:List α}(h:∀ a∈xs,∀ b∈xs,D a b=D' a b)(hs:sortR D' xs=some ys):sortR D xs=some ys:=by
 obtain⟨h1,h2,h3⟩:=qkG hs
 have hl:∀ a∈xs,∀ b∈xs,ltB D a b=ltB D' a b:=fun a ha b hb=>by unfold ltB;rw [h a ha b hb]
 refine qmb ⟨h1.lt,fun a ha b hb=>by rw [h a ha b hb];exact h1.tot a ha b hb,fun a ha=>by rw [hl a ha a ha];exact h1.irrefl a ha,
  fun a ha b hb c hc p q=>by rw [hl a ha c hc];rw [hl a ha b hb] at p;rw [hl b hb c hc] at q;exact h1.trans a ha b hb c hc p q,
  fun a ha b hb p q=>by rw [hl a ha b hb] at p;rw [hl b hb a ha] at q;exact h1.anti a ha b hb p q⟩ ⟨h2,h3.imp_of_mem fun {a b} ha hb p=>by rw [hl b (h2.subset hb) a (h2.subset ha)];exact p⟩
structure TL (xs:List (List Int)):Prop where
 len:xs.length<=2000000000
 tok:∀ t∈xs,tok t=true
 one:∀ t∈xs,t.length=(nth [] xs 0).length
theorem qxG{N:Nat}{xs:List Int}(hN:200000000<=N)(hl:xs.length<=100000000):qaG N (xs,xs,())=some (true,()):=by
 simp only [qaG,qfi,joinD,loopE,bne_self_eq_false,cond_false]
 refine qdX (n:=xs.length) (by omega) (fun i hi kn=>?_) (fun kn=>by simp only [qbH,qbr,cond_false,qdB]) (by omega)
 simp only [qbH,lt_d hi,ge0_d,Bool.and_self,cond_true,Int.toNat_natCast,bne_self_eq_false,cond_false,qU,ix1 hi (by omega)]
end Go.Proofs.YtgnnhemoocfclaaDoor.Rea
