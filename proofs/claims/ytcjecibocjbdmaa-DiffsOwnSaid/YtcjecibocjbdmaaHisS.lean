import Derived.Test.YtcjecibocjbdmaaHisA
import Derived.Test.YtcjecibocjbdmaaHisP
namespace Go.Proofs.Ytcjecibocjbdmaa
open Go.Abs Go.Bag Go.His
abbrev kT:Sh:=.pair (.int .i64) (.pair (.int .i64) (.pair (.int .i64) (.pair (.int .i64) (.int .i64))))
abbrev vT:Sh:=.pair (.int .i64) (.sl (.pair (.int .i64) (.pair (.pair (.int .i64) (.int .i64)) (.int .i64))))
abbrev KT:Type:=Int×Int×Int×Int×Int
abbrev Hy:Type:=Int×List (Int×KT×Bg)
abbrev kTn:noSl kT=true:=rfl
def tkey(t:List Int):KT:=((t.length:Int),nth 0 (cpy [0,0,0,0] t) 0,nth 0 (cpy [0,0,0,0] t) 1,nth 0 (cpy [0,0,0,0] t) 2,nth 0 (cpy [0,0,0,0] t) 3)
def ktime(x:KT):List Int:=[x.2.1,x.2.2.1,x.2.2.2.1,x.2.2.2.2].take x.1.toNat
theorem ktime_tkey{t:List Int}(h:t.length<=4):ktime (tkey t)=t:=by
 match t,h with
 | [],_=>rfl
 | [_],_=>rfl
 | [_,_],_=>rfl
 | [_,_,_],_=>rfl
 | [_,_,_,_],_=>rfl
 | _ :: _ :: _ :: _ :: _ :: _,h=>simp at h
theorem KeyOf_eq(N:Nat)(t:List Int):D_diffs_KeyOf N (t,())=some (tkey t,()):=rfl
theorem clone_eq{N:Nat}{a:List Int}(h:a.length<=1000):D_slices_Clone_Lint_int N (a,())=some a:=by
 simp only [D_slices_Clone_Lint_int,slices_Clone_Lint_int_1]
 rw [d_true (by simp;omega)]
 cases a with
 | nil=>simp [dem2];rfl
 | cons x xs=>simp;rfl
theorem Time_eq(N:Nat){t:List Int}(h:t.length<=4):D_diffs_Key_Time N (tkey t,())=some t:=by
 have e:([(tkey t).2.1,(tkey t).2.2.1,(tkey t).2.2.2.1,(tkey t).2.2.2.2]:List Int).take (tkey t).1.toNat=t:=ktime_tkey h
 simp only [D_diffs_Key_Time,diffs_Key_Time_1]
 rw [e,clone_eq (by omega),d_true (show (0:Int)<=(tkey t).1 by simp [tkey]),d_true (show (tkey t).1<=(([(tkey t).2.1,(tkey t).2.2.1,(tkey t).2.2.2.1,(tkey t).2.2.2.2]:List Int).length:Int) by simp [tkey];omega)]
 rfl
structure HyOk (G:List Int->Key->Int) (d:Hy):Prop where
 ok:MpOk kT vT d
 key:∀ e∈d.2,∃ t:List Int,t.length<=4/\e.2.1=tkey t
 bag:∀ e∈d.2,BOk (G (ktime e.2.1)) e.2.2
 off:∀ t,(∀ e∈d.2,ktime e.2.1≠t)->∀ z,Cg (G t z) 0
def cntH(d:Hy):Nat:=sumE (k:=kT) (v:=vT) (fun b=>b.2.length) d.2
theorem HyOk.empty:HyOk (fun _ _=>0) ((0:Int),[]):=⟨MpOk.empty,fun e h=>(by cases h),fun e h=>(by cases h),fun _ _ _=>Cg.rfl⟩
theorem HyOk.cg{G G':List Int->Key->Int}{d:Hy}(h:HyOk G d)(hg:∀ t z,Cg (G t z) (G' t z)):HyOk G' d:=
 ⟨h.ok,h.key,fun e he=>(h.bag e he).cg (hg _),fun t ht z=>(hg t z).symm.trans (h.off t ht z)⟩
theorem HyOk.kt{G:List Int->Key->Int}{d:Hy}(h:HyOk G d){e:Int×KT×Bg}(he:e∈d.2):(ktime e.2.1).length<=4/\e.2.1=tkey (ktime e.2.1):=by
 obtain⟨t,h1,h2⟩:=h.key e he
 rw [h2,ktime_tkey h1]
 exact⟨h1,rfl⟩
theorem HyOk.get{G:List Int->Key->Int}{d:Hy}(h:HyOk G d){t:List Int}(ht:t.length<=4)(q:mpHas kT vT d (tkey t)=true):BOk (G t) (mpGet kT vT d (tkey t)):=by
 obtain⟨e,e1,e2,e3⟩:=has_mem (k:=kT) (v:=vT) q
 have e2':e.2.1=tkey t:=e2
 have:=h.bag e e1
 rw [e2',ktime_tkey ht] at this
 rw [<- e3];exact this
theorem HyOk.no{G:List Int->Key->Int}{d:Hy}(h:HyOk G d){t:List Int}(q:mpHas kT vT d (tkey t)=false):∀ z,Cg (G t z) 0:=by
 refine h.off t fun e he e1=>?_
 have:=(mem_get (k:=kT) (v:=vT) kTn h.ok he).1
 have e2:e.2.1=tkey t:=by rw [(h.kt he).2,e1]
 rw [show (e.2.1:kT.den)=tkey t from e2,q] at this
 cases this
theorem put_mem{G:List Int->Key->Int}{d:Hy}(h:HyOk G d)(x:KT)(b:Bg){e:Int×KT×Bg}(he:e∈(mpPut kT vT d x b).2):(e.2.1=x/\e.2.2=b)\/(e.2.1≠x/\∃ f∈d.2,f.2.1=e.2.1/\f.2.2=e.2.2):=by
 obtain⟨g1,g2⟩:=mem_get (k:=kT) (v:=vT) kTn (h.ok.put kTn x b) he
 by_cases q:e.2.1=x
 ·refine .inl ⟨q,?_⟩
  rw [show (e.2.1:kT.den)=x from q,mput_get (k:=kT) (v:=vT) kTn] at g2
  exact g2.symm
 ·refine .inr ⟨q,?_⟩
  rw [mput_has_ne (k:=kT) (v:=vT) kTn d q] at g1
  rw [mput_get_ne (k:=kT) (v:=vT) kTn d q] at g2
  obtain⟨f,f1,f2,f3⟩:=has_mem (k:=kT) (v:=vT) g1
  exact⟨f,f1,f2,f3.trans g2⟩
theorem HyOk.put{G G':List Int->Key->Int}{d:Hy}(h:HyOk G d){t:List Int}(ht:t.length<=4){b:Bg}(hb:BOk (G' t) b)(hne:∀ u,u≠t->∀ z,Cg (G u z) (G' u z)):HyOk G' (mpPut kT vT d (tkey t) b):=by
 refine⟨h.ok.put kTn _ _,fun e he=>?_,fun e he=>?_,fun u hu z=>?_⟩
 ·rcases put_mem h (tkey t) b he with⟨h1,-⟩ | ⟨-,f,f1,f2,-⟩
  ·exact⟨t,ht,h1⟩
  ·rw [<- f2];exact h.key f f1
 ·rcases put_mem h (tkey t) b he with⟨h1,h2⟩ | ⟨h1,f,f1,f2,f3⟩
  ·rw [h1,h2,ktime_tkey ht];exact hb
  ·rw [<- f2,<- f3]
   refine (h.bag f f1).cg (hne _ fun e1=>h1 ?_)
   rw [<- f2,(h.kt f1).2,e1]
 ·obtain⟨x,x1,x2,-⟩:=has_mem (k:=kT) (v:=vT) (mput_has (k:=kT) (v:=vT) kTn d (tkey t) b)
  have hut:u≠t:=fun e=>hu x x1 (by rw [show x.2.1=tkey t from x2,ktime_tkey ht,e])
  refine (hne u hut z).symm.trans (h.off u (fun e he e1=>?_) z)
  have hk:e.2.1≠tkey t:=fun e2=>hut (by rw [<- e1,e2,ktime_tkey ht])
  have g1:=(mem_get (k:=kT) (v:=vT) kTn h.ok he).1
  rw [<- mput_has_ne (k:=kT) (v:=vT) kTn d hk b] at g1
  obtain⟨f,f1,f2,-⟩:=has_mem (k:=kT) (v:=vT) g1
  exact hu f f1 (by rw [show f.2.1=e.2.1 from f2];exact e1)
theorem pour_has{N:Nat}{G:List Int->Key->Int}{d:Hy}(h:HyOk G d){t:List Int}(ht:t.length<=4)(q:mpHas kT vT d (tkey t)=true)(l:List Row)(n:Int)(hN:l.length<N)(hl:l.length<=4611686018427387904) :
  ∃ b,D_bags_Bag_Pour_h N (l,n,kidL kT vT d.2 (ixL kT vT (tkey t) d.2))=some b/\HyOk (fun u z=>G u z+if u=t then n*amt l z else 0) (d.1,putL kT vT d.2 (ixL kT vT (tkey t) d.2) b)/\(putL kT vT d.2 (ixL kT vT (tkey t) d.2) b).length=d.2.length/\cntH (d.1,putL kT vT d.2 (ixL kT vT (tkey t) d.2) b)<=cntH d+l.length/\(d.1,putL kT vT d.2 (ixL kT vT (tkey t) d.2) b)=mpPut kT vT d (tkey t) b:=by
 rw [mp_kid (k:=kT) (v:=vT) q]
 obtain⟨b,e1,e2,e3⟩:=Pour_eq (N:=N) (h.get ht q) l n hN hl
 refine⟨b,e1,?_⟩
 have hp:=mp_putL (k:=kT) (v:=vT) (d:=d) q b
 have hp2:putL kT vT d.2 (ixL kT vT (tkey t) d.2) b=(mpPut kT vT d (tkey t) b).2:=congrArg Prod.snd hp
 refine⟨?_,?_,?_,hp⟩
 ·rw [hp]
  refine h.put ht (e2.cg fun z=>?_) fun u hu z=>?_
  ·rw [zG rfl];exact Cg.rfl
  ·rw [zJ hu,zBL];exact Cg.rfl
 ·rw [hp2];exact put_len_has (k:=kT) (v:=vT) q b
 ·rw [hp]
  have:=sum_put (k:=kT) (v:=vT) q (fun b=>b.2.length) b
  have e3':b.2.length<=(mpGet kT vT d (tkey t)).2.length+l.length:=e3
  unfold cntH
  omega
theorem put_keep{d:Hy}(x:KT)(y:Bg){z:KT}(h:mpHas kT vT d z=true):mpHas kT vT (mpPut kT vT d x y) z=true:=by
 by_cases q:z=x
 ·rw [q];exact mput_has (k:=kT) (v:=vT) kTn d x y
 ·rw [mput_has_ne (k:=kT) (v:=vT) kTn d q];exact h
theorem hPour_eq2{N:Nat}{G:List Int->Key->Int}{d:Hy}(h:HyOk G d){t:List Int}(ht:t.length<=4)(l:List Row)(n:Int)(hN:l.length<N)(hl:l.length<=4611686018427387904) :
  ∃ d',D_diffs_History_Pour_h N (t,l,n,d)=some d'/\HyOk (fun u z=>G u z+if u=t then n*amt l z else 0) d'/\d'.2.length<=d.2.length+1/\cntH d'<=cntH d+l.length /\
   (∀ x,mpHas kT vT d x=true->mpHas kT vT d' x=true)/\mpHas kT vT d' (tkey t)=true/\(mpHas kT vT d (tkey t)=true->d'.2.length=d.2.length):=by
 have heta:∀ x:KT,(x.1,(x.2.1,(x.2.2.1,(x.2.2.2.1,x.2.2.2.2))))=x:=fun _=>rfl
 simp only [D_diffs_History_Pour_h,diffs_History_Pour_h_1,heta]
 rw [KeyOf_eq,Option.bind_some]
 simp only
 cases q:mpHas kT vT d (tkey t) with
 | true=>
  obtain⟨b,e1,e2,e3,e4,e5⟩:=pour_has (N:=N) h ht q l n hN hl
  refine⟨_,?_,e2,by show (putL kT vT d.2 (ixL kT vT (tkey t) d.2) b).length<=_;omega,e4,fun x hx=>?_,?_,fun _=>e3⟩
  ·simp only [cond_true,e1,Option.bind_some]
  ·rw [e5];exact put_keep _ _ hx
  ·rw [e5];exact mput_has (k:=kT) (v:=vT) kTn d _ _
 | false=>
  simp only [cond_false]
  have q1:mpHas kT vT (mpPut kT vT d (tkey t) ((0:Int),[])) (tkey t)=true:=mput_has (k:=kT) (v:=vT) kTn d (tkey t) _
  have h1:HyOk G (mpPut kT vT d (tkey t) ((0:Int),[])):=h.put ht (BOk.empty.cg fun z=>(h.no q z).symm) fun u _ z=>Cg.rfl
  obtain⟨b,e1,e2,e3,e4,e5⟩:=pour_has (N:=N) h1 ht q1 l n hN hl
  refine⟨_,?_,e2,?_,?_,fun x hx=>?_,?_,fun hh=>absurd hh (by simp)⟩
  ·rw [q1]
   simp only [cond_true,e1,Option.bind_some]
  ·exact zm (Nat.le_of_eq e3) (put_len (k:=kT) (v:=vT) d (tkey t) ((0:Int),[]))
  ·have:cntH (mpPut kT vT d (tkey t) ((0:Int),[]))=cntH d+0:=sum_new (k:=kT) (v:=vT) q (fun b=>b.2.length) ((0:Int),[])
   omega
  ·rw [e5];exact put_keep _ _ (put_keep _ _ hx)
  ·rw [e5];exact mput_has (k:=kT) (v:=vT) kTn _ _ _
theorem hPour_eq{N:Nat}{G:List Int->Key->Int}{d:Hy}(h:HyOk G d){t:List Int}(ht:t.length<=4)(l:List Row)(n:Int)(hN:l.length<N)(hl:l.length<=4611686018427387904) :
  ∃ d',D_diffs_History_Pour_h N (t,l,n,d)=some d'/\HyOk (fun u z=>G u z+if u=t then n*amt l z else 0) d'/\d'.2.length<=d.2.length+1/\cntH d'<=cntH d+l.length:=by
 obtain⟨d',h1,h2,h3,h4,-⟩:=hPour_eq2 (N:=N) h ht l n hN hl
 exact⟨d',h1,h2,h3,h4⟩
theorem hOf_eq{N:Nat}{h:List Df}(hl:h.length<N)(hl2:h.length<=4611686018427387904)(ht:∀ d∈h,d.1.length<=4)(hr:cntR h<N)(hr2:cntR h<=4611686018427387904) :
  ∃ d,D_diffs_Of_h N h=some d/\HyOk (fun t=>amt (rowsAt h t)) d/\d.2.length<=h.length/\cntH d<=cntR h:=by
 simp only [D_diffs_Of_h,diffs_Of_h_3,joinD,loopE]
 have hmono:∀ i,cntR (h.take i)<=cntR h:=fun i=>by
  have:cntR h=cntR (h.take i)+cntR (h.drop i):=by
   conv=>lhs;rw [<- zAZ i h]
   unfold cntR;rw [zAf,zBu]
  omega
 obtain⟨s,⟨b,rfl,hb,hb1,hb2⟩,hs⟩:=loopD_inv (N:=N) (g:=fun (s:Int×Hy) kn=>diffs_Of_h_2 N (fun s=>diffs_Of_h_1 N s) h (h.length:Int) s.1 s.2 (backE (h,(h.length:Int)) kn)) (k:=fun s=>some s.2) h.length
  (fun i s=>∃ b:Hy,s=((i:Int),b)/\HyOk (fun t=>amt (rowsAt (h.take i) t)) b/\b.2.length<=i/\cntH b<=cntR (h.take i))
  (fun i s hi hI=>by
   obtain⟨b,rfl,hb,hb1,hb2⟩:=hI
   have hd:=nth_mem (z:=zd) hi
   have hc1:=hmono (i+1)
   rw [cntR_take hi] at hc1
   obtain⟨b',e1,e2,e3,e4⟩:=hPour_eq (N:=N) hb (ht _ hd) (nth zd h i).2 1 (by omega) (by omega)
   refine⟨_,⟨b',rfl,?_,by omega,by rw [cntR_take hi];omega⟩,fun kn=>?_⟩
   ·refine e2.cg fun t z=>Cg.of_eq ?_
    unfold rowsAt
    rw [take_nd hi,sel_snoc,amt_append]
    by_cases q:t=(nth zd h i).1
    ·rw [zG q,zG (by rw [zK];exact q.symm),Int.one_mul]
    ·rw [zJ q,zJ (by rw [zK];exact fun e=>q e.symm)];rfl
   ·simp only [diffs_Of_h_2,lt_d hi,ge0_d,Bool.and_self,cond_true,Int.toNat_natCast,e1,Option.bind_some,backE_eq,ix1 hi hl2]
    rfl)
  (fun s hI kn=>by
   obtain⟨b,rfl,_⟩:=hI
   simp only [diffs_Of_h_2,lt_self,cond_false,diffs_Of_h_1])
  hl (s:=(0,((0:Int),[]))) ⟨_,rfl,HyOk.empty.cg fun t z=>Cg.rfl,Nat.le_refl _,Nat.le_refl _⟩
 rw [zAR] at hb hb2
 exact⟨b,hs,hb,hb1,hb2⟩
theorem Cmp_eq(N:Nat)(x y:Int):D_cmp_Compare_int N (x,y,())=some (if x<y then -1 else if y<x then 1 else 0,()):=by
 simp only [D_cmp_Compare_int,cmp_Compare_int_1,D_cmp_isNaN_int,cmp_isNaN_int_1,bne_self_eq_false,Option.bind_some,cond_false]
 by_cases h1:x<y
 ·rw [d_true h1,cond_true,zG h1]
 ·rw [d_false h1,cond_false,zJ h1]
  by_cases h2:y<x
  ·rw [d_true h2,cond_true,zG h2]
  ·rw [d_false h2,cond_false,zJ h2]
theorem lexc_drop{a b:List Int}{i:Nat}(h1:i<a.length)(h2:i<b.length):lexc (a.drop i) (b.drop i)=if nth 0 a i<nth 0 b i then -1 else if nth 0 b i<nth 0 a i then 1 else lexc (a.drop (i+1)) (b.drop (i+1)):=by
 rw [zAJ h1,zAJ h2,nth_lt h1,nth_lt h2]
 rfl
theorem lexC_eq{N:Nat}{a b:List Int}(h1:a.length<=4)(hN:1000<=N):D_slices_Compare_Lint_int N (a,b,())=some (lexc a b,()):=by
 simp only [D_slices_Compare_Lint_int,slices_Compare_Lint_int_3,joinD,loopE]
 refine loopD_const (fun s=>∃ i:Nat,s=(i:Int)/\i<=a.length/\i<=b.length/\lexc (a.drop i) (b.drop i)=lexc a b) (fun s=>a.length - s.toNat) _ ?_ N _ ⟨0,rfl,zw _,zw _,rfl⟩ (by simp;omega)
 rintro s ⟨i,rfl,hi,hib,hx⟩ kn hkn
 by_cases hia:i<a.length
 ·simp only [slices_Compare_Lint_int_2,lt_d hia,ge0_d,Bool.and_self,cond_true,Int.toNat_natCast]
  by_cases hb:i<b.length
  ·rw [d_false (by omega),cond_false,Cmp_eq,Option.bind_some,lt_d hb,Bool.and_self,cond_true]
   rw [lexc_drop hia hb] at hx
   by_cases q1:nth 0 a i<nth 0 b i
   ·rw [zG q1] at hx ⊢
    rw [<- hx];rfl
   ·rw [zJ q1] at hx ⊢
    by_cases q2:nth 0 b i<nth 0 a i
    ·rw [zG q2] at hx ⊢
     rw [<- hx];rfl
    ·rw [zJ q2] at hx ⊢
     simp only [bne_self_eq_false,cond_false,backE_eq,ix1 hia (by omega)]
     exact hkn _ ⟨i+1,rfl,by omega,by omega,hx⟩ (by simp;omega)
  ·rw [d_true (by omega),cond_true,<- hx,zAE (l:=b) (by omega),zAJ hia]
   rfl
 ·have hia:i=a.length:=by omega
  subst hia
  simp only [slices_Compare_Lint_int_2,lt_self,cond_false,slices_Compare_Lint_int_1]
  rw [<- hx,zAE (Nat.le_refl _)]
  by_cases hb:a.length<b.length
  ·rw [d_true (by omega),cond_true,zAJ hb];rfl
  ·rw [d_false (by omega),cond_false,zAE (by omega)];rfl
theorem dif_cmp{N:Nat}(hN:1000<=N){p q:Df}(h:p.1.length<=4):D_diffs_History_Tells_c1 N (p,q,())=some (lexc p.1 q.1,()):=by
 simp only [D_diffs_History_Tells_c1,diffs_History_Tells_c1_1,lexC_eq h hN,Option.bind_some]
theorem sort_difs{N:Nat}(hN:1000<=N){D:Df->Df->Option Int}(hD:∀ p q:Df,p.1.length<=4->D p q=some (lexc p.1 q.1)){xs:List Df}(hl:xs.length<4611686018427387904)(h4:∀ d∈xs,d.1.length<=4)(hn:(xs.map Prod.fst).Nodup) :
  ∃ ys:List Df,sortR D xs=some ys/\ys.Perm xs/\ys.Pairwise fun a b=>lexc a.1 b.1<0:=by
 have hlt:∀ a∈xs,∀ b:Df,ltB D a b=decide (lexc a.1 b.1<0):=fun a ha b=>by
  unfold ltB
  rw [hD a b (h4 a ha)]
 have hok:SortOk D xs:=by
  refine⟨hl,fun a ha b _=>⟨_,hD a b (h4 a ha)⟩,fun a ha=>by rw [hlt a ha];exact d_false (lexc_irrefl _),fun a ha b hb c _ h1 h2=>?_,fun a ha b hb h1 h2=>?_⟩
  ·rw [hlt a ha] at h1 ⊢
   rw [hlt b hb] at h2
   exact d_true (lexc_trans (zk h1) (zk h2))
  ·rw [hlt a ha] at h1
   rw [hlt b hb] at h2
   have e:=lexc_ge (zAm h1) (zAm h2)
   have e1:=rowsAt_mem hn ha
   have e2:=rowsAt_mem hn hb
   rw [e,e2] at e1
   exact Prod.ext e e1.symm
 obtain⟨ys,h1,h2,h3⟩:=sortR_ok hok
 refine⟨ys,h1,h2,?_⟩
 have hny:(ys.map Prod.fst).Nodup:=(h2.map Prod.fst).nodup_iff.2 hn
 have hny':ys.Pairwise fun a b=>a.1≠b.1:=by rw [<- zAq];exact hny
 refine (List.Pairwise.and_mem.1 (h3.and hny')).imp fun {a b} hab=>?_
 obtain⟨ha,hb,p1,p2⟩:=hab
 rw [hlt b (h2.subset hb)] at p1
 exact Classical.byContradiction fun hno=>p2 (lexc_ge hno (zAm p1))
noncomputable def rws(N:Nat)(b:Bg):List Row:=((D_bags_Bag_Rows_h N b).map Prod.fst).getD []
theorem rws_eq{N:Nat}{f:Key->Int}{b:Bg}(h:BOk f b)(hN:b.2.length+10<N)(hM:b.2.length<=1000000000000) :
  D_bags_Bag_Rows_h N b=some (rws N b,b)/\IsBag f (rws N b)/\(rws N b).length=b.2.length:=by
 obtain⟨out,e1,e2,e3⟩:=Rows_eq h hN (by omega)
 have:rws N b=out:=by unfold rws;rw [e1];rfl
 rw [this]
 exact⟨e1,e2,e3⟩
noncomputable def toDf(N:Nat)(e:Int×KT×Bg):Df:=(ktime e.2.1,rws N e.2.2)
def fullB(e:Int×KT×Bg):Bool:=decide (0<e.2.2.2.length)
noncomputable def allD(N:Nat)(es:List (Int×KT×Bg)):List Df:=(es.filter fullB).map (toDf N)
theorem allD_cons(N:Nat)(e:Int×KT×Bg)(es:List (Int×KT×Bg)):allD N (e :: es)=(if fullB e=true then [toDf N e] else [])++allD N es:=by
 unfold allD
 by_cases q:fullB e=true
 ·rw [zAT q,zG q];rfl
 ·rw [zAQ q,zJ q];rfl
theorem allD_perm{N:Nat}{a b:List (Int×KT×Bg)}(h:a.Perm b):(allD N a).Perm (allD N b):=(h.filter _).map _
theorem erase_perm'{α:Type}{l:List α}{i:Nat}{x:α}(hx:l[i]? = some x):(x :: l.eraseIdx i).Perm l:=by
 have:=erase_perm (fun a:α=>a) hx
 simpa using this
theorem cntR_app(a b:List Df):cntR (a++b)=cntR a+cntR b:=by unfold cntR;rw [zAf,zBu]
theorem cntR_perm{a b:List Df}(h:a.Perm b):cntR a=cntR b:=by
 unfold cntR
 induction h with
 | nil=>rfl
 | cons x _ ih=>simp only [List.map_cons,zBG,ih]
 | swap x y l=>simp only [List.map_cons,zBG];omega
 | trans _ _ ih1 ih2=>rw [ih1,ih2]
theorem allD_cnt{N:Nat}:∀ {es:List (Int×KT×Bg)},(∀ e∈es,(rws N e.2.2).length=e.2.2.2.length)->cntR (allD N es)<=sumE (k:=kT) (v:=vT) (fun b=>b.2.length) es
 | [],_=>Nat.le_refl _
 | e :: es,h=>by
  have ih:=allD_cnt (N:=N) (es:=es) fun x hx=>h x (by simp [hx])
  have he:=h e (by simp)
  rw [allD_cons,cntR_app]
  simp only [sumE,List.map_cons,zBG] at ih ⊢
  split
  ·have:cntR [toDf N e]=(rws N e.2.2).length:=by simp [cntR,toDf]
   omega
  ·have:cntR ([]:List Df)=0:=rfl
   omega
theorem hTells_eq{N:Nat}(hN:1000<=N){G:List Int->Key->Int}{d:Hy}(h:HyOk G d)(h1:d.2.length<N)(h2:cntH d+10<N)(hM1:d.2.length<=1000000)(hM2:cntH d<=1000000000000) :
  ∃ l,IsHis G l/\l.length<=d.2.length/\cntR l<=cntH d/\D_diffs_History_Tells_h N d=some (if 64<l.length\/128<cntR l then ([],1) else (l,0)):=by
 have hb:∀ e∈d.2,e.2.2.2.length<=cntH d:=fun e he=>le_sumE (k:=kT) (v:=vT) (fun b=>b.2.length) he
 have hr:∀ e∈d.2,D_bags_Bag_Rows_h N e.2.2=some (rws N e.2.2,e.2.2)/\IsBag (G (ktime e.2.1)) (rws N e.2.2)/\(rws N e.2.2).length=e.2.2.2.length:=fun e he=>
  rws_eq (h.bag e he) (by have:=hb e he;omega) (by have:=hb e he;omega)
 have hcnt:=allD_cnt (N:=N) fun e he=>(hr e he).2.2
 have hlen:(allD N d.2).length<=d.2.length:=by unfold allD;rw [zAO];exact zAb _ _
 have hmem:∀ x∈allD N d.2,∃ e∈d.2,0<e.2.2.2.length/\x=toDf N e:=fun x hx=>by
  unfold allD at hx
  obtain⟨e,he,rfl⟩:=zi.1 hx
  obtain⟨he1,he2⟩:=zr.1 he
  exact⟨e,he1,zk he2,rfl⟩
 have h4:∀ x∈allD N d.2,x.1.length<=4:=fun x hx=>by
  obtain⟨e,he,-,rfl⟩:=hmem x hx
  exact (h.kt he).1
 have hnd:((allD N d.2).map Prod.fst).Nodup:=by
  unfold allD
  rw [List.map_map]
  have hk:(d.2.map fun e=>e.2.1).Nodup:=h.ok.keys
  unfold List.Nodup at hk ⊢
  rw [zAq] at hk ⊢
  refine (List.Pairwise.and_mem.1 (hk.sublist List.filter_sublist)).imp fun {a b} hab e=>?_
  obtain⟨ha,hb',hne⟩:=hab
  refine hne ?_
  have e':ktime a.2.1=ktime b.2.1:=e
  rw [show a.2.1=tkey (ktime a.2.1) from (h.kt (zr.1 ha).1).2,e',<- (h.kt (zr.1 hb').1).2]
 obtain⟨ys,s1,s2,s3⟩:=sort_difs (N:=N) hN (D:=fun p q=>(D_diffs_History_Tells_c1 N (p,q,())).map (·.1)) (fun p q hp=>by rw [dif_cmp hN hp];rfl) (xs:=allD N d.2) (by omega) h4 hnd
 have hsort:∀ xs:List Df,xs.Perm (allD N d.2)->sortR (fun p q=>(D_diffs_History_Tells_c1 N (p,q,())).map (·.1)) xs=some ys:=fun xs hp=>by
  obtain⟨zs,t1,t2,t3⟩:=sort_difs (N:=N) hN (D:=fun p q=>(D_diffs_History_Tells_c1 N (p,q,())).map (·.1)) (fun p q hp=>by rw [dif_cmp hN hp];rfl) (xs:=xs) (by rw [hp.length_eq];omega) (fun x hx=>h4 x (hp.subset hx)) ((hp.map Prod.fst).nodup_iff.2 hnd)
  rw [t1]
  exact congrArg some (sorted_uniq (r:=fun a b=>lexc a.1 b.1<0) zs ys (fun a _ b _ h1 h2=>absurd (lexc_trans h1 h2) (lexc_irrefl _)) ((t2.trans hp).trans s2.symm) t3 s3)
 have hys:IsHis G ys:=by
  refine⟨s3,fun x hx=>?_,fun x hx=>?_,fun t ht z=>?_⟩
  ·obtain⟨e,he,-,rfl⟩:=hmem x (s2.subset hx)
   exact (hr e he).2.1
  ·obtain⟨e,he,hpos,rfl⟩:=hmem x (s2.subset hx)
   have e3:=(hr e he).2.2
   intro e4
   have e5:rws N e.2.2 = []:=e4
   rw [e5] at e3
   simp only [List.length_nil] at e3
   omega
  ·by_cases q:∃ e∈d.2,ktime e.2.1=t
   ·obtain⟨e,he,rfl⟩:=q
    have hz:e.2.2.2 = []:=Classical.byContradiction fun hne=>by
     refine ht (toDf N e) (s2.symm.subset ?_) rfl
     unfold allD
     exact zi.2 ⟨e,zr.2 ⟨he,by unfold fullB;rw [zK];exact zAV.2 hne⟩,rfl⟩
    have hv:=(h.bag e he).val z
    have hb0:mpGet kS vS e.2.2 z=0:=by unfold mpGet;rw [hz];rfl
    rw [hb0] at hv
    show w _=w 0
    rw [w_zero];exact hv.symm
   ·exact h.off t (fun e he e1=>q ⟨e,he,e1⟩) z
 refine⟨ys,hys,by rw [s2.length_eq];exact hlen,by rw [cntR_perm s2];exact hcnt,?_⟩
 simp only [D_diffs_History_Tells_h,diffs_History_Tells_h_3,joinD,loopE]
 refine loopD_const (fun s=>(s.2.2++allD N (restE (k:=kT) (v:=vT) s.2.1)).Perm (allD N d.2)/\s.1=(cntR s.2.2:Int)/\∀ e∈restE (k:=kT) (v:=vT) s.2.1,e∈d.2) (fun s=>(restE (k:=kT) (v:=vT) s.2.1).length) _ ?_ N _ (by exact⟨.refl _,rfl,fun e he=>he⟩) (by show d.2.length<N;exact h1)
 rintro⟨rn,m,l⟩ ⟨hp,hrn,hsub⟩ kn hkn
 simp only at hp hrn hsub hkn ⊢
 subst hrn
 simp only [diffs_History_Tells_h_2]
 refine nextE_run (k:=kT) (v:=vT) (fun hr0=>?_) (fun i x hx=>?_)
 ·rw [hr0] at hp
  have hp':l.Perm (allD N d.2):=by simpa [allD] using hp
  have e1:ys.length=l.length:=s2.length_eq.trans hp'.length_eq.symm
  have e2:cntR ys=cntR l:=(cntR_perm s2).trans (cntR_perm hp').symm
  simp only [diffs_History_Tells_h_1,hsort l hp',Option.bind_some,e1,e2]
  by_cases c1:64<l.length
  ·rw [d_true (show (l.length:Int)>64 by omega),cond_true,zG (.inl c1)]
  ·rw [d_false (show ¬ (l.length:Int)>64 by omega),cond_false]
   by_cases c2:128<cntR l
   ·rw [d_true (show (cntR l:Int)>128 by omega),cond_true,zG (.inr c2)]
   ·rw [d_false (show ¬ (cntR l:Int)>128 by omega),cond_false,zJ (by rintro (h | h) <;> omega)]
 ·have hxm:x∈d.2:=hsub x (zh hx)
  have hper:=erase_perm' hx
  obtain⟨r1,r2,r3⟩:=hr x hxm
  have hl0:=erase_len hx
  have hsub':∀ e∈(restE (k:=kT) (v:=vT) m).eraseIdx i,e∈d.2:=fun e he=>hsub e ((zAd _ _).subset he)
  by_cases q:0<x.2.2.2.length
  ·have hp2:(l ++ [toDf N x]++allD N ((restE (k:=kT) (v:=vT) m).eraseIdx i)).Perm (allD N d.2):=by
    refine List.Perm.trans ?_ hp
    rw [zW]
    refine List.Perm.append_left l ?_
    have:=allD_perm (N:=N) hper
    rw [allD_cons,zG (by unfold fullB;exact d_true q)] at this
    exact this
   have e1:=cntR_perm hp2
   rw [cntR_app,cntR_app] at e1
   have e2:cntR [toDf N x]=x.2.2.2.length:=by simp [cntR,toDf,r3]
   have e3:=hp2.length_eq
   simp only [zg,zAn] at e3
   have ek:((x.2.1.1,(x.2.1.2.1,(x.2.1.2.2.1,(x.2.1.2.2.2.1,x.2.1.2.2.2.2)))):KT)=tkey (ktime x.2.1):=(h.kt hxm).2
   have e4:sumE (k:=kT) (v:=vT) (fun b=>b.2.length) d.2=cntH d:=rfl
   rw [d_true (show (x.2.2.2.length:Int)>0 by omega),cond_true,ek,Time_eq N (h.kt hxm).1,Option.bind_some,roR_of (q:=Q_bags_Rows) (s:=.sl (.pair (.int .i64) (.pair (.int .i64) (.int .i64)))) r1,Option.bind_some,
    d_true (show (l.length+([(ktime x.2.1,rws N x.2.2)]:List Df).length)*48<=140737488355328 by simp only [zAn];omega),show Nat.ble 1 48=true from rfl,Bool.and_self,cond_true,backE_eq,
    w64 (show -9223372036854775808<=(cntR l:Int)+(x.2.2.2.length:Int) by omega) (by omega)]
   refine hkn _ ⟨hp2,?_,hsub'⟩ hl0
   show (cntR l:Int)+(x.2.2.2.length:Int)=(cntR (l ++ [toDf N x]):Int)
   rw [cntR_app,e2];omega
  ·rw [d_false (show ¬ (x.2.2.2.length:Int)>0 by omega),cond_false,backE_eq]
   refine hkn _ ⟨?_,rfl,hsub'⟩ hl0
   refine List.Perm.trans (List.Perm.append_left l ?_) hp
   have:=allD_perm (N:=N) hper
   rw [allD_cons,zJ (by unfold fullB;rw [zK];exact q)] at this
   exact this
end Go.Proofs.Ytcjecibocjbdmaa
