import Derived.Test.YtgnnhemoocfclaaGreatDoorRTim
import Derived.Test.YtgnnhemoocfclaaGreatDoorTimesP
import Derived.Test.YtgnnhemoocfclaaGreatDoorAbsLat
namespace Go.Proofs.YtgnnhemoocfclaaGreatDoor.Rea
open Go.Abs
theorem lt_d{i m:Nat}(h:i<m):decide ((i:Int)<(m:Int))=true:=qy (by omega)
theorem qbb(m:Nat):decide ((m:Int)<(m:Int))=false:=qO (by omega)
theorem ge0_d(i:Nat):decide ((0:Int)<=(i:Int))=true:=qy (by omega)
theorem mem_nth{α:Type}{z a:α}{xs:List α}(h:a∈xs):∃ t,t<xs.length/\nth z xs t=a:=by
 obtain⟨t,ht,e⟩:=zAf h
 exact⟨t,ht,by rw [qcv ht,e]⟩
def tok(t:List Int):Bool:=decide (1<=t.length)&&decide (t.length<=4)&&t.all fun x=>decide (0<=x)&&decide (x<=1048576)
theorem qqq{t:List Int}(h:tok t=true):1<=t.length/\t.length<=4:=by
 simp only [tok,zA,zN] at h;exact h.1
theorem ix1{n i:Nat}(h:i<n)(hn:n<=1000000000):IntKind.i64.wrap ((i:Int)+1)=(i:Int)+1:=w64 (by omega) (by omega)
theorem ix2{n i:Nat}(h:i<n)(hn:n<=4611686018427387904):IntKind.i64.wrap ((i:Int)+1)=(i:Int)+1:=w64 (by omega) (by omega)
theorem Check_eq{N:Nat}(hN:200000000<=N)(t:List Int):∃ e,qbB N (t,())=some (e,())/\(e=0↔tok t=true):=by
 simp only [qbB,qnm]
 by_cases h0:t.length=0
 ·refine⟨1,?_,by simp [tok,h0]⟩
  rw [show ((t.length:Int)==0)=true from by rw [beq_iff_eq];omega,cond_true]
 rw [show ((t.length:Int)==0)=false from zb (by omega),cond_false]
 by_cases h4:4<t.length
 ·refine⟨1,?_,by simp [tok];omega⟩
  rw [qy (by omega),cond_true]
 rw [qO (by omega),cond_false]
 simp only [joinD,loopE]
 have hbody:∀ i,i<t.length->∀ kn,qhh N (fun _=>qjK N) t (t.length:Int) (i:Int) (backE (t,(t.length:Int)) kn)=if 0<=nth 0 t i/\nth 0 t i<=1048576 then kn ((i:Int)+1) else some (2,()):=fun i hi kn=>by
  simp only [qhh,lt_d hi,ge0_d,Bool.and_self,cond_true,Int.toNat_natCast,qK,ix1 hi (by omega)]
  by_cases q1:nth 0 t i<0
  ·rw [qy q1,cond_true,zJ (by omega)]
  ·rw [qO q1,cond_false]
   by_cases q2:nth 0 t i>1048576
   ·rw [qy q2,cond_true,zJ (by omega)]
   ·rw [qO q2,cond_false,zH (by omega)]
 have hall:(t.all fun x=>decide (0<=x)&&decide (x<=1048576))=true↔∀ i,i<t.length->0<=nth 0 t i/\nth 0 t i<=1048576:=by
  rw [zj]
  constructor
  ·intro h i hi
   simpa using h _ (qbJ (z:=0) hi)
  ·intro h x hx
   obtain⟨i,hi,rfl⟩:=mem_nth (z:=(0:Int)) hx
   simpa using h i hi
 have htok:tok t=true↔∀ i,i<t.length->0<=nth 0 t i/\nth 0 t i<=1048576:=by
  rw [<- hall];simp [tok];omega
 by_cases hg:∀ i,i<t.length->0<=nth 0 t i/\nth 0 t i<=1048576
 ·refine⟨0,qei (n:=t.length) (by omega) (fun i hi kn=>by rw [hbody i hi,zH (hg i hi)]) (fun kn=>by simp only [qhh,qbb,cond_false,qjK]) (by omega),by rw [htok];exact⟨fun _=>hg,fun _=>rfl⟩⟩
 ·refine⟨2,qlg (n:=t.length) (by omega) (fun i=>¬ (0<=nth 0 t i/\nth 0 t i<=1048576)) (fun i hi hb kn=>by rw [hbody i hi,zJ hb]) (fun i hi hb kn=>by rw [hbody i hi,zH (Classical.not_not.1 hb)]) (by omega) ?_,by rw [htok];exact⟨fun h=>absurd h (by decide),fun h=>absurd h hg⟩⟩
  exact Classical.byContradiction fun hn=>hg fun i hi=>Classical.byContradiction fun hb=>hn ⟨i,hi,hb⟩
theorem qhj{α:Type}(z x:α)(xs:List α)(i:Nat):nth z (x :: xs) (i+1)=nth z xs i:=by simp [nth]
theorem qtK:∀ {a b:List Int},a.length=b.length->(undr a b=true↔∀ i,i<a.length->nth 0 a i<=nth 0 b i)
 | [],_,_=>⟨fun _ i h=>absurd h (zAV _),fun _=>rfl⟩
 | _ :: _,[],h=>by cases h
 | x :: xs,y :: ys,h=>by
  have ih:=qtK (a:=xs) (b:=ys) (by simpa using h)
  simp only [undr,zA,zN,ih]
  constructor
  ·rintro⟨h1,h2⟩ i hi
   cases i with
   | zero=>exact h1
   | succ i=>rw [qhj,qhj];exact h2 i (by simpa using hi)
  ·intro h
   refine⟨h 0 (by simp),fun i hi=>?_⟩
   have:=h (i+1) (by simpa using hi)
   rwa [qhj,qhj] at this
theorem qvd{N:Nat}{a b:List Int}(hl:a.length=b.length)(h1:a.length<=4)(hN:200000000<=N):qbA N (a,b,())=some (undr a b,()):=by
 simp only [qbA,qnj,joinD,loopE]
 have hbody:∀ i,i<a.length->∀ kn,qhg N (fun _=>qjI N) a b (a.length:Int) (i:Int) (backE (a,b,(a.length:Int)) kn)=if nth 0 a i<=nth 0 b i then kn ((i:Int)+1) else some (false,()):=fun i hi kn=>by
  simp only [qhg,lt_d hi,lt_d (show i<b.length by omega),ge0_d,Bool.and_self,cond_true,Int.toNat_natCast,qK,ix1 hi (by omega)]
  by_cases q:nth 0 a i<=nth 0 b i
  ·rw [qO (by omega),cond_false,zH q]
  ·rw [qy (by omega),cond_true,zJ q]
 have hu:=qtK hl
 by_cases hg:∀ i,i<a.length->nth 0 a i<=nth 0 b i
 ·rw [hu.2 hg]
  exact qei (n:=a.length) (by omega) (fun i hi kn=>by rw [hbody i hi,zH (hg i hi)]) (fun kn=>by simp only [qhg,qbb,cond_false,qjI]) (by omega)
 ·rw [zAL.2 fun h=>hg (hu.1 h)]
  refine qlg (n:=a.length) (by omega) (fun i=>¬ nth 0 a i<=nth 0 b i) (fun i hi hb kn=>by rw [hbody i hi,zJ hb]) (fun i hi hb kn=>by rw [hbody i hi,zH (Classical.not_not.1 hb)]) (by omega) ?_
  exact Classical.byContradiction fun hn=>hg fun i hi=>Classical.byContradiction fun hb=>hn ⟨i,hi,hb⟩
def alk(a b:List Int):Bool:=decide (a.length=b.length)&&(tok a&&tok b)
theorem qDP{N:Nat}(hN:200000000<=N)(a b:List Int):qeq N (a,b,())=some (alk a b,()):=by
 obtain⟨e,e1,e2⟩:=Check_eq hN a
 obtain⟨f,f1,f2⟩:=Check_eq hN b
 simp only [qeq,qni,alk]
 by_cases hl:a.length=b.length
 ·rw [show ((a.length:Int)==(b.length:Int))=true from by rw [beq_iff_eq];omega,cond_true,e1,Option.bind_some,show (e==0)=tok a from by rw [zBO,beq_iff_eq];exact e2]
  cases tok a with
  | false=>simp
  | true=>rw [cond_true,f1,Option.bind_some,show (f==0)=tok b from by rw [zBO,beq_iff_eq];exact f2];simp [hl]
 ·rw [show ((a.length:Int)==(b.length:Int))=false from zb (by omega),cond_false];simp [hl]
def leqT(a b:List Int):Bool:=alk a b&&undr a b
theorem qCH{a b:List Int}:alk a b=true↔a.length=b.length/\tok a=true/\tok b=true:=by simp [alk]
theorem qFI{N:Nat}(hN:200000000<=N)(a b:List Int):qgm N (a,b,())=some (leqT a b,()):=by
 simp only [qgm,qqr,qDP hN a b,Option.bind_some,leqT]
 cases h:alk a b with
 | false=>rfl
 | true=>
  obtain⟨h1,h2,-⟩:=qCH.1 h
  rw [cond_true,qvd h1 (qqq h2).2 hN]
  rfl
theorem qzF(N:Nat)(x y:Int):qaB N (x,y,())=some (if x<y then -1 else if y<x then 1 else 0,()):=by
 simp only [qaB,qjC,qdg,qlo,bne_self_eq_false,Option.bind_some,cond_false]
 by_cases h1:x<y
 ·rw [qy h1,cond_true,zH h1]
 ·rw [qO h1,cond_false,zJ h1]
  by_cases h2:y<x
  ·rw [qy h2,cond_true,zH h2]
  ·rw [qO h2,cond_false,zJ h2]
theorem qBu{a b:List Int}{i:Nat}(h1:i<a.length)(h2:i<b.length):lexc (a.drop i) (b.drop i)=if nth 0 a i<nth 0 b i then -1 else if nth 0 b i<nth 0 a i then 1 else lexc (a.drop (i+1)) (b.drop (i+1)):=by
 rw [zAZ h1,zAZ h2,qcv h1,qcv h2]
 rfl
theorem qoW{N:Nat}{a b:List Int}(h1:a.length<=4)(hN:200000000<=N):qH N (a,b,())=some (lexc a b,()):=by
 simp only [qH,qeE,joinD,loopE]
 refine qfe (fun s=>∃ i:Nat,s=(i:Int)/\i<=a.length/\i<=b.length/\lexc (a.drop i) (b.drop i)=lexc a b) (fun s=>a.length - s.toNat) _ ?_ N _ ⟨0,rfl,zw _,zw _,rfl⟩ (by simp;omega)
 rintro s ⟨i,rfl,hi,hib,hx⟩ kn hkn
 by_cases hia:i<a.length
 ·simp only [qcL,lt_d hia,ge0_d,Bool.and_self,cond_true,Int.toNat_natCast]
  by_cases hb:i<b.length
  ·rw [qO (by omega),cond_false,qzF,Option.bind_some,lt_d hb,Bool.and_self,cond_true]
   rw [qBu hia hb] at hx
   by_cases q1:nth 0 a i<nth 0 b i
   ·rw [zH q1] at hx ⊢
    rw [<- hx];rfl
   ·rw [zJ q1] at hx ⊢
    by_cases q2:nth 0 b i<nth 0 a i
    ·rw [zH q2] at hx ⊢
     rw [<- hx];rfl
    ·rw [zJ q2] at hx ⊢
     simp only [bne_self_eq_false,cond_false,qK,ix1 hia (by omega)]
     exact hkn _ ⟨i+1,rfl,by omega,by omega,hx⟩ (by simp;omega)
  ·rw [qy (by omega),cond_true,<- hx,zAI (l:=b) (by omega),zAZ hia]
   rfl
 ·have hia:i=a.length:=by omega
  subst hia
  simp only [qcL,qbb,cond_false,qeF]
  rw [<- hx,zAI (Nat.le_refl _)]
  by_cases hb:a.length<b.length
  ·rw [qy (by omega),cond_true,zAZ hb];rfl
  ·rw [qO (by omega),cond_false,zAI (by omega)];rfl
theorem qoa{N:Nat}{a:List Int}(h:a.length<=200000000):qB N (a,())=some a:=by
 simp only [qB,qfy]
 rw [qy (by simp;omega)]
 cases a with
 | nil=>simp [dem2];rfl
 | cons x xs=>simp;rfl
theorem qCl{N:Nat}{a:List (List Int)}(h:a.length<=2000000000):qaK N (a,())=some a:=by
 simp only [qaK,qeG]
 rw [qy (by simp;omega)]
 cases a with
 | nil=>simp [dem2];rfl
 | cons x xs=>simp;rfl
theorem qzl{n:Nat}{p:Nat->Prop}(h:∃ i,i<n/\p i):∃ i,i<n/\p i/\∀ j,j<i->¬ p j:=by
 induction n with
 | zero=>obtain⟨i,hi,-⟩:=h;exact absurd hi (zAV _)
 | succ n ih=>
  by_cases q:∃ i,i<n/\p i
  ·obtain⟨i,h1,h2,h3⟩:=ih q
   exact⟨i,by omega,h2,h3⟩
  ·obtain⟨i,h1,h2⟩:=h
   have:i=n:=Classical.byContradiction fun hne=>q ⟨i,by omega,h2⟩
   subst this
   exact⟨i,by omega,h2,fun j hj hp=>q ⟨j,hj,hp⟩⟩
theorem qzW{R S:Type}{g:Int×S->(Int×S->Option R)->Option R}{t:S}{n:Nat}(hit:Nat->Prop)(r:Nat->Option R)(h1:∀ i,i<n->hit i->∀ kn,g ((i:Int),t) kn=r i)(h2:∀ i,i<n->¬ hit i->∀ kn,g ((i:Int),t) kn=kn ((i:Int)+1,t))
  {N:Nat} (hN:n<N) (hex:∃ i,i<n/\hit i):∃ i,i<n/\hit i/\loopD g N ((0:Int),t)=r i:=by
 obtain⟨i0,a1,a2,a3⟩:=qzl hex
 refine⟨i0,a1,a2,qfe (fun s=>∃ i:Nat,s=((i:Int),t)/\i<=i0) (fun s=>n - s.1.toNat) _ ?_ N _ ⟨0,rfl,zw _⟩ (by simp;omega)⟩
 rintro s ⟨i,rfl,hi⟩ kn hkn
 by_cases q:i=i0
 ·subst q;exact h1 i a1 a2 kn
 ·rw [h2 i (by omega) (a3 i (by omega))]
  exact hkn _ ⟨i+1,by simp,by omega⟩ (by simp;omega)
theorem qmJ{α:Type}{D D':α->α->Option Int}{xs ys:List α}(h:∀ a∈xs,∀ b∈xs,D a b=D' a b)(hs:sortR D' xs=some ys):sortR D xs=some ys:=by
 obtain⟨h1,h2,h3⟩:=qlD hs
 have hl:∀ a∈xs,∀ b∈xs,ltB D a b=ltB D' a b:=fun a ha b hb=>by unfold ltB;rw [h a ha b hb]
 refine qqd ⟨h1.lt,fun a ha b hb=>by rw [h a ha b hb];exact h1.tot a ha b hb,fun a ha=>by rw [hl a ha a ha];exact h1.irrefl a ha,
  fun a ha b hb c hc p q=>by rw [hl a ha c hc];rw [hl a ha b hb] at p;rw [hl b hb c hc] at q;exact h1.trans a ha b hb c hc p q,
  fun a ha b hb p q=>by rw [hl a ha b hb] at p;rw [hl b hb a ha] at q;exact h1.anti a ha b hb p q⟩ ⟨h2,h3.imp_of_mem fun {a b} ha hb p=>by rw [hl b (h2.subset hb) a (h2.subset ha)];exact p⟩
structure TL (xs:List (List Int)):Prop where
 len:xs.length<=2000000000
 tok:∀ t∈xs,tok t=true
 one:∀ t∈xs,t.length=(nth [] xs 0).length
theorem TL.eqL{xs:List (List Int)}(h:TL xs){a b:List Int}(ha:a∈xs)(hb:b∈xs):a.length=b.length:=by rw [h.one a ha,h.one b hb]
theorem qFm{N:Nat}(hN:5000000000<=N){f:List (List Int)}{t:List Int}(hf:f.length<=2000000000)(hl:∀ u∈f,u.length=t.length)(h4:t.length<=4):qad N (f,t)=some (f.any (fun u=>undr u t),f,t):=by
 have hbody:∀ i,i<f.length->∀ kn,qan N (fun s=>qaw N s.1 s.2) (f.length:Int) f (i:Int) t (backE ((f.length:Int),f) kn)=if undr (nth [] f i) t=true then some ((i:Int),f,t) else kn ((i:Int)+1,t):=fun i hi kn=>by
  have hu:=hl _ (qbJ (z:=([]:List Int)) hi)
  simp only [qan,lt_d hi,ge0_d,Bool.and_self,cond_true,Int.toNat_natCast,qcI,qix,qvd hu (by omega) (show 200000000<=N by omega),Option.bind_some,qK,ix2 hi (by omega)]
  cases undr (nth [] f i) t <;> rfl
 simp only [qad,qco,qax,qcQ,joinD,loopE]
 cases hany:f.any (fun u=>undr u t) with
 | false=>
  have hno:∀ i,i<f.length->¬ undr (nth [] f i) t=true:=fun i hi h=>by
   have:f.any (fun u=>undr u t)=true:=zAS.2 ⟨_,qbJ (z:=([]:List Int)) hi,h⟩
   rw [hany] at this;cases this
  obtain⟨-,-,e⟩:=qwk (N:=N) (g:=fun (s:Int×List Int) kn=>qan N (fun s=>qaw N s.1 s.2) (f.length:Int) f s.1 s.2 (backE ((f.length:Int),f) kn)) (s:=((0:Int),t)) (k:=fun _=>some (-1,f,t)) f.length (fun i s=>s=((i:Int),t))
   (fun i s hi hs=>⟨((i:Int)+1,t),rfl,fun kn=>by subst hs;simp only;rw [hbody i hi,zJ (hno i hi)]⟩) (fun s hs kn=>by subst hs;simp only [qan,qbb,cond_false,qaw]) (by omega) rfl
  rw [e];rfl
 | true=>
  obtain⟨u,hu,hut⟩:=zAS.1 hany
  obtain⟨i,hi,rfl⟩:=mem_nth (z:=([]:List Int)) hu
  obtain⟨j,-,-,e⟩:=qzW (N:=N) (g:=fun (s:Int×List Int) kn=>qan N (fun s=>qaw N s.1 s.2) (f.length:Int) f s.1 s.2 (backE ((f.length:Int),f) kn)) (t:=t) (n:=f.length) (fun i=>undr (nth [] f i) t=true) (fun i=>some ((i:Int),f,t))
   (fun i hi hb kn=>by simp only;rw [hbody i hi,zH hb]) (fun i hi hb kn=>by simp only;rw [hbody i hi,zJ hb]) (by omega) ⟨i,hi,hut⟩
  rw [e,Option.bind_some,qy (by omega)]
theorem qBK(ts:List (List Int)):∀ f:List (List Int),(ts.foldl frS f).length<=f.length+ts.length:=by
 induction ts with
 | nil=>intro f;simp
 | cons t ts ih=>
  intro f
  rw [List.foldl_cons]
  have h1:=ih (frS f t)
  have h2:(frS f t).length<=f.length+1:=by unfold frS;split <;> simp
  simp only [List.length_cons]
  omega
theorem qEN(ts:List (List Int)):∀ f:List (List Int),∀ u∈ts.foldl frS f,u∈f\/u∈ts:=by
 induction ts with
 | nil=>intro f u hu;exact .inl hu
 | cons t ts ih=>
  intro f u hu
  rw [List.foldl_cons] at hu
  rcases ih _ u hu with h | h
  ·unfold frS at h
   split at h
   ·exact .inl h
   ·rcases zL.1 h with h | h
    ·exact .inl h
    ·exact .inr (by rw [zM.1 h];simp)
  ·exact .inr (by simp [h])
theorem qDM{N:Nat}(hN:5000000000<=N){xs:List (List Int)}(h:TL xs):∃ f,qds N (xs,())=some f/\Rise f/\(∀ t,t∈f↔isMin xs t)/\f.length<=xs.length:=by
 have hlen:=h.len
 obtain⟨ys,y1,y2⟩:=qtW (qFw xs (by omega))
 have hsort:sortR (fun p q=>(qH N (p,q,())).map (·.1)) xs=some ys:=qmJ (fun a ha b hb=>by rw [qoW (qqq (h.tok a ha)).2 (by omega)];rfl) y1
 have hyl:ys.length=xs.length:=y2.1.length_eq
 have hym:∀ t∈ys,t∈xs:=fun t ht=>y2.1.subset ht
 obtain⟨g1,g2⟩:=qAd (k:=(nth [] xs 0).length) h.one y2
 refine⟨frL ys,?_,g1,g2,by have:=qBK ys [];unfold frL;simp at this;omega⟩
 simp only [qds,qnk,qCl (N:=N) (show xs.length<=2000000000 by omega),Option.bind_some,hsort,joinD,loopE]
 refine qbS (N:=N) ys.length (fun i=>((i:Int),frL (ys.take i))) (fun i hi kn=>?_) (fun kn=>?_) (by omega)
 ·have hti:=hym _ (qbJ (z:=([]:List Int)) hi)
  have hfl:(frL (ys.take i)).length<=i:=by have:=qBK (ys.take i) [];unfold frL;simp at this;omega
  have hfm:∀ u∈frL (ys.take i),u.length=(nth [] ys i).length:=fun u hu=>by
   rcases qEN (ys.take i) [] u hu with h' | h'
   ·cases h'
   ·exact h.eqL (hym u (zAQ h')) hti
  have h4:=(qqq (h.tok _ hti)).2
  have hstep:frL (ys.take (i+1))=frS (frL (ys.take i)) (nth [] ys i):=by
   have:ys.take (i+1)=ys.take i ++ [nth [] ys i]:=by rw [List.take_add_one,qcv hi,zX hi];rfl
   rw [this];unfold frL;rw [List.foldl_append];rfl
  simp only [qjJ,lt_d hi,ge0_d,Bool.and_self,cond_true,Int.toNat_natCast,qFm hN (show (frL (ys.take i)).length<=2000000000 by omega) hfm h4,Option.bind_some,hstep]
  unfold frS
  cases hany:(frL (ys.take i)).any (fun u=>undr u (nth [] ys i)) with
  | true=>simp only [Bool.not_true,cond_false,qK,ix2 hi (by omega),if_true];rfl
  | false=>
   simp only [Bool.not_false,cond_true,qoa (N:=N) (show (nth [] ys i).length<=200000000 by omega),Option.bind_some]
   rw [qy (by simp;omega)]
   simp only [qK,ix2 hi (by omega)]
   rfl
 ·simp only [qjJ,qbb,cond_false,qnl]
  rw [zAe (Nat.le_refl _)]
theorem qFk{N:Nat}(hN:5000000000<=N){f:List (List Int)}(hf:f.length<=2000000000)(t:List Int):qdk N (f,t,())=some (f.any (fun u=>leqT u t),()):=by
 have hbody:∀ i,i<f.length->∀ kn,qX N (fun _=>qao N) f t (f.length:Int) (i:Int) (backE (f,t,(f.length:Int)) kn)=if leqT (nth [] f i) t=true then some ((i:Int),()) else kn ((i:Int)+1):=fun i hi kn=>by
  simp only [qX,lt_d hi,ge0_d,Bool.and_self,cond_true,Int.toNat_natCast,qee,qkL,qFI (show 200000000<=N by omega),Option.bind_some,qK,ix2 hi (by omega)]
  cases leqT (nth [] f i) t <;> rfl
 simp only [qdk,qpc,qN,qbo,qY,qbw,joinD,loopE]
 cases hany:f.any (fun u=>leqT u t) with
 | false=>
  have hno:∀ i,i<f.length->¬ leqT (nth [] f i) t=true:=fun i hi h=>by
   have:f.any (fun u=>leqT u t)=true:=zAS.2 ⟨_,qbJ (z:=([]:List Int)) hi,h⟩
   rw [hany] at this;cases this
  rw [qei (n:=f.length) (k:=some (-1,())) (by omega) (fun i hi kn=>by rw [hbody i hi,zJ (hno i hi)]) (fun kn=>by simp only [qX,qbb,cond_false,qao]) (by omega)]
  rfl
 | true=>
  obtain⟨u,hu,hut⟩:=zAS.1 hany
  obtain⟨i,hi,rfl⟩:=mem_nth (z:=([]:List Int)) hu
  obtain⟨i0,a1,a2,a3⟩:=qzl (p:=fun i=>leqT (nth [] f i) t=true) ⟨i,hi,hut⟩
  have e:loopD (fun (s:Int) kn=>qX N (fun _=>qao N) f t (f.length:Int) s (backE (f,t,(f.length:Int)) kn)) N 0=some ((i0:Int),()):=by
   refine qfe (fun s=>∃ i:Nat,s=(i:Int)/\i<=i0) (fun s=>f.length - s.toNat) _ ?_ N _ ⟨0,rfl,zw _⟩ (by simp;omega)
   rintro s ⟨k,rfl,hk⟩ kn hkn
   by_cases q:k=i0
   ·rw [q,hbody i0 a1,zH a2]
   ·rw [hbody k (by omega),zJ (a3 k (by omega))]
    exact hkn _ ⟨k+1,rfl,by omega⟩ (by simp;omega)
  rw [e]
  simp only [Option.bind_some]
  rw [qy (show ((i0:Nat):Int)>=0 by omega)]
end Go.Proofs.YtgnnhemoocfclaaGreatDoor.Rea
