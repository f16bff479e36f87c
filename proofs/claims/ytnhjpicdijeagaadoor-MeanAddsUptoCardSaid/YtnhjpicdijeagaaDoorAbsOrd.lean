import Derived.Test.YtnhjpicdijeagaaDoorAbsLp
namespace Go.Abs
theorem qju{R:Type}{g:Int->(Int->Option R)->Option R}{n:Nat}(hn:n<4611686018427387904){r:Option R}(bad:Nat->Prop)
  (h1:∀ i:Nat,i<n->bad i->∀ kn,g i kn=r) (h2:∀ i:Nat,i<n->¬ bad i->∀ kn,g i kn=kn ((i:Int)+1)) {N:Nat} (hN:n<N) (hb:∃ i,i<n/\bad i):loopD g N 0=r:=by
 obtain⟨b,hbn,hbb⟩:=hb
 refine qpD (fun s=>∃ i:Nat,s=(i:Int)/\i<=n/\∀ j,j<i->¬ bad j) (fun s=>n - s.toNat) _ ?_ N _ ⟨0,rfl,zAE _,fun j h=>by omega⟩ (by simp;omega)
 rintro s ⟨i,rfl,hi,hok⟩ kn hkn
 have hin:i<n:=by
  rcases zAO i n with h | h
  ·exact h
  ·exact absurd hbb (hok b (by omega))
 by_cases hb:bad i
 ·exact h1 i hin hb kn
 ·rw [h2 i hin hb]
  refine hkn _ ⟨i+1,by omega,by omega,fun j h=>?_⟩ (by simp;omega)
  by_cases e:j=i
  ·subst e;exact hb
  ·exact hok j (by omega)
theorem qcK{R:Type}{g:Int->(Int->Option R)->Option R}{n:Nat}(hn:n<4611686018427387904){k:Option R}(h2:∀ i:Nat,i<n->∀ kn,g i kn=kn ((i:Int)+1))(h3:∀ kn,g n kn=k){N:Nat}(hN:n<N):loopD g N 0=k:=by
 refine qpD (fun s=>∃ i:Nat,s=(i:Int)/\i<=n) (fun s=>n - s.toNat) _ ?_ N _ ⟨0,rfl,zAE _⟩ (by simp;omega)
 rintro s ⟨i,rfl,hi⟩ kn hkn
 by_cases hin:i<n
 ·rw [h2 i hin]
  exact hkn _ ⟨i+1,by omega,by omega⟩ (by simp;omega)
 ·have:i=n:=by omega
  subst this
  exact h3 kn
def le(up:List Int)(i j:Nat):Prop:=bt (nth 0 up i) j=true
instance {up:List Int} {i j:Nat}:Decidable (le up i j):=inferInstanceAs (Decidable (_=true))
structure Ord (n:Int) (up:List Int):Prop where
 h0:0<=n
 h1:n<=16
 len:up.length=n.toNat
 inn:∀ i,i<n.toNat->∀ j,le up i j->j<n.toNat
 refl:∀ i,i<n.toNat->le up i i
 anti:∀ i j,i<n.toNat->j<n.toNat->le up i j->le up j i->i=j
 trans:∀ i j k,i<n.toNat->j<n.toNat->le up i j->le up j k->le up i k
theorem qY{p:Prop} [Decidable p] (h:p):decide p=true:=decide_eq_true h
theorem qah{p:Prop} [Decidable p] (h:¬ p):decide p=false:=zAi h
theorem filter_lt{α:Type}{p q:α->Bool}:(l:List α)->(∀ x∈l,p x=true->q x=true)->(∃ x∈l,q x=true/\p x=false)->(l.filter p).length<(l.filter q).length
 | [],_,h=>by obtain⟨x,hx,_⟩:=h;cases hx
 | x :: l,h1,h2=>by
  have hle:∀ l:List α,(∀ x∈l,p x=true->q x=true)->(l.filter p).length<=(l.filter q).length:=fun l=>by
   induction l with
   | nil=>intro _;simp
   | cons x l ih=>
    intro h
    have:=ih fun y hy=>h y (by simp [hy])
    have hx:=h x (by simp)
    cases hp:p x with
    | true=>simp [zAa,hp,hx hp];omega
    | false=>cases hq:q x <;> simp [zAa,hp,hq] <;> omega
  have hx:=h1 x (by simp)
  have hl:=hle l fun y hy=>h1 y (by simp [hy])
  by_cases hxx:q x=true/\p x=false
  ·simp [zAa,hxx.1,hxx.2];omega
  ·have:∃ y∈l,q y=true/\p y=false:=by
    obtain⟨y,hy,h3⟩:=h2
    rcases zi.1 hy with rfl | hy
    ·exact absurd h3 hxx
    ·exact⟨y,hy,h3⟩
   have ih:=filter_lt l (fun y hy=>h1 y (by simp [hy])) this
   cases hp:p x with
   | true=>simp [zAa,hp,hx hp];omega
   | false=>cases hq:q x <;> simp [zAa,hp,hq] <;> omega
theorem Ord.least{n:Int}{up:List Int}(h:Ord n up)(p:Nat->Prop){i:Nat}(hi:i<n.toNat)(hp:p i):∃ i,i<n.toNat/\p i/\∀ y,y<n.toNat->p y->le up y i->y=i:=by
 have key:∀ k i,((List.range n.toNat).filter fun x=>decide (le up x i)).length<=k->i<n.toNat->p i->∃ i,i<n.toNat/\p i/\∀ y,y<n.toNat->p y->le up y i->y=i:=by
  intro k
  induction k with
  | zero=>
   intro i hk hi _
   have:i∈(List.range n.toNat).filter fun x=>decide (le up x i):=zc.2 ⟨zg.2 hi,decide_eq_true (h.refl i hi)⟩
   have:=List.length_pos_of_mem this
   omega
  | succ k ih=>
   intro i hk hi hp
   by_cases hm:∃ y,y<n.toNat/\p y/\le up y i/\y≠i
   ·obtain⟨y,hy,hpy,hle,hne⟩:=hm
    refine ih y ?_ hy hpy
    have:=filter_lt (p:=fun x=>decide (le up x y)) (q:=fun x=>decide (le up x i)) (List.range n.toNat) (fun x hx h1=>decide_eq_true (h.trans x y i (zg.1 hx) hy (zV h1) hle))
     ⟨i,zg.2 hi,decide_eq_true (h.refl i hi),zAi fun h1=>hne (h.anti y i hy hi hle h1)⟩
    omega
   ·exact⟨i,hi,hp,fun y hy hpy hle=>Classical.byContradiction fun hne=>hm ⟨y,hy,hpy,hle,hne⟩⟩
 exact key _ i (Nat.le_refl _) hi hp
theorem qcJ{R S:Type}{g:S->(S->Option R)->Option R}(n:Nat)(st:Nat->S){k:Option R}(h2:∀ i,i<n->∀ kn,g (st i) kn=kn (st (i+1)))(h3:∀ kn,g (st n) kn=k){N:Nat}(hN:n<N):loopD g N (st 0)=k:=by
 have key:∀ d N a,a+d=n->d<N->loopD g N (st a)=k:=by
  intro d
  induction d with
  | zero=>
   intro N a ha hd
   obtain⟨N,rfl⟩:∃ M,N=M+1:=⟨N - 1,by omega⟩
   obtain rfl:a=n:=by omega
   exact h3 _
  | succ d ih=>
   intro N a ha hd
   obtain⟨N,rfl⟩:∃ M,N=M+1:=⟨N - 1,by omega⟩
   show g (st a) (loopD g N)=k
   rw [h2 a (by omega)]
   exact ih N (a+1) (by omega) (by omega)
 exact key n N 0 (by omega) hN
theorem qhT{R S:Type}{g:S->(S->Option R)->Option R}(n:Nat)(I:Nat->S->Prop){k:S->Option R}(h2:∀ i s,i<n->I i s->∃ s',I (i+1) s'/\∀ kn,g s kn=kn s')(h3:∀ s,I n s->∀ kn,g s kn=k s){N:Nat}(hN:n<N){s:S}(h0:I 0 s) :
  ∃ s',I n s'/\loopD g N s=k s':=by
 have key:∀ d N a s,a+d=n->d<N->I a s->∃ s',I n s'/\loopD g N s=k s':=by
  intro d
  induction d with
  | zero=>
   intro N a s ha hd hi
   obtain⟨N,rfl⟩:∃ M,N=M+1:=⟨N - 1,by omega⟩
   obtain rfl:a=n:=by omega
   exact⟨s,hi,h3 s hi _⟩
  | succ d ih=>
   intro N a s ha hd hi
   obtain⟨N,rfl⟩:∃ M,N=M+1:=⟨N - 1,by omega⟩
   obtain⟨s',hi',e⟩:=h2 a s (by omega) hi
   show ∃ s',I n s'/\g s (loopD g N)=k s'
   rw [e]
   exact ih N (a+1) s' (by omega) (by omega) hi'
 exact key n N 0 s (by omega) hN h0
end Go.Abs
