import Derived.Test.YtcjecibocjbdmaaHisA
import Derived.Test.YtcjecibocjbdmaaHisP
namespace Go.Proofs.Ytcjecibocjbdmaa
open Go.Abs Go.Bag Go.His
abbrev kT:Sh:=.pair (.int .i64) (.pair (.int .i64) (.pair (.int .i64) (.pair (.int .i64) (.int .i64))))
abbrev vT:Sh:=.pair (.int .i64) (.sl (.pair (.int .i64) (.pair (.pair (.int .i64) (.int .i64)) (.int .i64))))
abbrev KT:Type:=Int×Int×Int×Int×Int
abbrev Hy:Type:=Int×List (Int×KT×Bg)
abbrev kTn:noSl kT=true:=rfl
def tkey(t:List Int):KT:=((t.length:Int),nth 0 (cpy [0,0,0,0] t) 0,nth 0 (cpy [0,0,0,0] t) 1,nth 0 (cpy [0,0,0,0] t) 2,nth 0 (cpy [0,0,0,0] t) 3)
def ktime(x:KT):List Int:=[x.2.1,x.2.2.1,x.2.2.2.1,x.2.2.2.2].take x.1.toNat
theorem ktime_tkey{t:List Int}(h:t.length<=4):ktime (tkey t)=t:=by
 match t,h with
 | [],_=>rfl
 | [_],_=>rfl
 | [_,_],_=>rfl
 | [_,_,_],_=>rfl
 | [_,_,_,_],_=>rfl
 | _ :: _ :: _ :: _ :: _ :: _,h=>simp at h
theorem clone_eq{N:Nat}{a:List Int}(h:a.length<=1000):D_slices_Clone_Lint_int N (a,())=some a:=by
 simp only [D_slices_Clone_Lint_int,slices_Clone_Lint_int_1]
 rw [d_true (by simp;omega)]
 cases a with
 | nil=>simp [dem2];rfl
 | cons x xs=>simp;rfl
structure HyOk (G:List Int->Key->Int) (d:Hy):Prop where
 ok:MpOk kT vT d
 key:∀ e∈d.2,∃ t:List Int,t.length<=4/\e.2.1=tkey t
 bag:∀ e∈d.2,BOk (G (ktime e.2.1)) e.2.2
 off:∀ t,(∀ e∈d.2,ktime e.2.1≠t)->∀ z,Cg (G t z) 0
theorem HyOk.empty:HyOk (fun _ _=>0) ((0:Int),[]):=⟨MpOk.empty,fun e h=>(by cases h),fun e h=>(by cases h),fun _ _ _=>Cg.rfl⟩
theorem HyOk.cg{G G':List Int->Key->Int}{d:Hy}(h:HyOk G d)(hg:∀ t z,Cg (G t z) (G' t z)):HyOk G' d:=
 ⟨h.ok,h.key,fun e he=>(h.bag e he).cg (hg _),fun t ht z=>(hg t z).symm.trans (h.off t ht z)⟩
theorem HyOk.kt{G:List Int->Key->Int}{d:Hy}(h:HyOk G d){e:Int×KT×Bg}(he:e∈d.2):(ktime e.2.1).length<=4/\e.2.1=tkey (ktime e.2.1):=by
 obtain⟨t,h1,h2⟩:=h.key e he
 rw [h2,ktime_tkey h1]
 exact⟨h1,rfl⟩
theorem HyOk.get{G:List Int->Key->Int}{d:Hy}(h:HyOk G d){t:List Int}(ht:t.length<=4)(q:mpHas kT vT d (tkey t)=true):BOk (G t) (mpGet kT vT d (tkey t)):=by
 obtain⟨e,e1,e2,e3⟩:=has_mem (k:=kT) (v:=vT) q
 have e2':e.2.1=tkey t:=e2
 have:=h.bag e e1
 rw [e2',ktime_tkey ht] at this
 rw [<- e3];exact this
theorem HyOk.no{G:List Int->Key->Int}{d:Hy}(h:HyOk G d){t:List Int}(q:mpHas kT vT d (tkey t)=false):∀ z,Cg (G t z) 0:=by
 refine h.off t fun e he e1=>?_
 have:=(mem_get (k:=kT) (v:=vT) kTn h.ok he).1
 have e2:e.2.1=tkey t:=by rw [(h.kt he).2,e1]
 rw [show (e.2.1:kT.den)=tkey t from e2,q] at this
 cases this
theorem put_mem{G:List Int->Key->Int}{d:Hy}(h:HyOk G d)(x:KT)(b:Bg){e:Int×KT×Bg}(he:e∈(mpPut kT vT d x b).2):(e.2.1=x/\e.2.2=b)\/(e.2.1≠x/\∃ f∈d.2,f.2.1=e.2.1/\f.2.2=e.2.2):=by
 obtain⟨g1,g2⟩:=mem_get (k:=kT) (v:=vT) kTn (h.ok.put kTn x b) he
 by_cases q:e.2.1=x
 ·refine .inl ⟨q,?_⟩
  rw [show (e.2.1:kT.den)=x from q,mput_get (k:=kT) (v:=vT) kTn] at g2
  exact g2.symm
 ·refine .inr ⟨q,?_⟩
  rw [mput_has_ne (k:=kT) (v:=vT) kTn d q] at g1
  rw [mput_get_ne (k:=kT) (v:=vT) kTn d q] at g2
  obtain⟨f,f1,f2,f3⟩:=has_mem (k:=kT) (v:=vT) g1
  exact⟨f,f1,f2,f3.trans g2⟩
theorem HyOk.put{G G':List Int->Key->Int}{d:Hy}(h:HyOk G d){t:List Int}(ht:t.length<=4){b:Bg}(hb:BOk (G' t) b)(hne:∀ u,u≠t->∀ z,Cg (G u z) (G' u z)):HyOk G' (mpPut kT vT d (tkey t) b):=by
 refine⟨h.ok.put kTn _ _,fun e he=>?_,fun e he=>?_,fun u hu z=>?_⟩
 ·rcases put_mem h (tkey t) b he with⟨h1,-⟩ | ⟨-,f,f1,f2,-⟩
  ·exact⟨t,ht,h1⟩
  ·rw [<- f2];exact h.key f f1
 ·rcases put_mem h (tkey t) b he with⟨h1,h2⟩ | ⟨h1,f,f1,f2,f3⟩
  ·rw [h1,h2,ktime_tkey ht];exact hb
  ·rw [<- f2,<- f3]
   refine (h.bag f f1).cg (hne _ fun e1=>h1 ?_)
   rw [<- f2,(h.kt f1).2,e1]
 ·obtain⟨x,x1,x2,-⟩:=has_mem (k:=kT) (v:=vT) (mput_has (k:=kT) (v:=vT) kTn d (tkey t) b)
  have hut:u≠t:=fun e=>hu x x1 (by rw [show x.2.1=tkey t from x2,ktime_tkey ht,e])
  refine (hne u hut z).symm.trans (h.off u (fun e he e1=>?_) z)
  have hk:e.2.1≠tkey t:=fun e2=>hut (by rw [<- e1,e2,ktime_tkey ht])
  have g1:=(mem_get (k:=kT) (v:=vT) kTn h.ok he).1
  rw [<- mput_has_ne (k:=kT) (v:=vT) kTn d hk b] at g1
  obtain⟨f,f1,f2,-⟩:=has_mem (k:=kT) (v:=vT) g1
  exact hu f f1 (by rw [show f.2.1=e.2.1 from f2];exact e1)
theorem Cmp_eq(N:Nat)(x y:Int):D_cmp_Compare_int N (x,y,())=some (if x<y then -1 else if y<x then 1 else 0,()):=by
 simp only [D_cmp_Compare_int,cmp_Compare_int_1,D_cmp_isNaN_int,cmp_isNaN_int_1,bne_self_eq_false,Option.bind_some,cond_false]
 by_cases h1:x<y
 ·rw [d_true h1,cond_true,zF h1]
 ·rw [d_false h1,cond_false,zH h1]
  by_cases h2:y<x
  ·rw [d_true h2,cond_true,zF h2]
  ·rw [d_false h2,cond_false,zH h2]
theorem lexc_drop{a b:List Int}{i:Nat}(h1:i<a.length)(h2:i<b.length):lexc (a.drop i) (b.drop i)=if nth 0 a i<nth 0 b i then -1 else if nth 0 b i<nth 0 a i then 1 else lexc (a.drop (i+1)) (b.drop (i+1)):=by
 rw [zAG h1,zAG h2,nth_lt h1,nth_lt h2]
 rfl
theorem lexC_eq{N:Nat}{a b:List Int}(h1:a.length<=4)(hN:1000<=N):D_slices_Compare_Lint_int N (a,b,())=some (lexc a b,()):=by
 simp only [D_slices_Compare_Lint_int,slices_Compare_Lint_int_3,joinD,loopE]
 refine loopD_const (fun s=>∃ i:Nat,s=(i:Int)/\i<=a.length/\i<=b.length/\lexc (a.drop i) (b.drop i)=lexc a b) (fun s=>a.length - s.toNat) _ ?_ N _ ⟨0,rfl,zk _,zk _,rfl⟩ (by simp;omega)
 rintro s ⟨i,rfl,hi,hib,hx⟩ kn hkn
 by_cases hia:i<a.length
 ·simp only [slices_Compare_Lint_int_2,lt_d hia,ge0_d,Bool.and_self,cond_true,Int.toNat_natCast]
  by_cases hb:i<b.length
  ·rw [d_false (by omega),cond_false,Cmp_eq,Option.bind_some,lt_d hb,Bool.and_self,cond_true]
   rw [lexc_drop hia hb] at hx
   by_cases q1:nth 0 a i<nth 0 b i
   ·rw [zF q1] at hx ⊢
    rw [<- hx];rfl
   ·rw [zH q1] at hx ⊢
    by_cases q2:nth 0 b i<nth 0 a i
    ·rw [zF q2] at hx ⊢
     rw [<- hx];rfl
    ·rw [zH q2] at hx ⊢
     simp only [bne_self_eq_false,cond_false,backE_eq,ix1 hia (by omega)]
     exact hkn _ ⟨i+1,rfl,by omega,by omega,hx⟩ (by simp;omega)
  ·rw [d_true (by omega),cond_true,<- hx,zy (l:=b) (by omega),zAG hia]
   rfl
 ·have hia:i=a.length:=by omega
  subst hia
  simp only [slices_Compare_Lint_int_2,lt_self,cond_false,slices_Compare_Lint_int_1]
  rw [<- hx,zy (Nat.le_refl _)]
  by_cases hb:a.length<b.length
  ·rw [d_true (by omega),cond_true,zAG hb];rfl
  ·rw [d_false (by omega),cond_false,zy (by omega)];rfl
end Go.Proofs.Ytcjecibocjbdmaa
