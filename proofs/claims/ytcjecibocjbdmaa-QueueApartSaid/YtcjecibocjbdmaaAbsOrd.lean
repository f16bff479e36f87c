import Derived.Test.YtcjecibocjbdmaaAbsLp
namespace Go.Abs
def le(up:List Int)(i j:Nat):Prop:=bt (nth 0 up i) j=true
instance {up:List Int} {i j:Nat}:Decidable (le up i j):=inferInstanceAs (Decidable (_=true))
structure Ord (n:Int) (up:List Int):Prop where
 h0:0<=n
 h1:n<=16
 len:up.length=n.toNat
 inn:∀ i,i<n.toNat->∀ j,le up i j->j<n.toNat
 refl:∀ i,i<n.toNat->le up i i
 anti:∀ i j,i<n.toNat->j<n.toNat->le up i j->le up j i->i=j
 trans:∀ i j k,i<n.toNat->j<n.toNat->le up i j->le up j k->le up i k
theorem qag{p:Prop} [Decidable p] (h:p):decide p=true:=decide_eq_true h
theorem qW{p:Prop} [Decidable p] (h:¬ p):decide p=false:=zAy h
theorem filter_lt{α:Type}{p q:α->Bool}:(l:List α)->(∀ x∈l,p x=true->q x=true)->(∃ x∈l,q x=true/\p x=false)->(l.filter p).length<(l.filter q).length
 | [],_,h=>by obtain⟨x,hx,_⟩:=h;cases hx
 | x :: l,h1,h2=>by
  have hle:∀ l:List α,(∀ x∈l,p x=true->q x=true)->(l.filter p).length<=(l.filter q).length:=fun l=>by
   induction l with
   | nil=>intro _;simp
   | cons x l ih=>
    intro h
    have:=ih fun y hy=>h y (by simp [hy])
    have hx:=h x (by simp)
    cases hp:p x with
    | true=>simp [zAg,hp,hx hp];omega
    | false=>cases hq:q x <;> simp [zAg,hp,hq] <;> omega
  have hx:=h1 x (by simp)
  have hl:=hle l fun y hy=>h1 y (by simp [hy])
  by_cases hxx:q x=true/\p x=false
  ·simp [zAg,hxx.1,hxx.2];omega
  ·have:∃ y∈l,q y=true/\p y=false:=by
    obtain⟨y,hy,h3⟩:=h2
    rcases zAB.1 hy with rfl | hy
    ·exact absurd h3 hxx
    ·exact⟨y,hy,h3⟩
   have ih:=filter_lt l (fun y hy=>h1 y (by simp [hy])) this
   cases hp:p x with
   | true=>simp [zAg,hp,hx hp];omega
   | false=>cases hq:q x <;> simp [zAg,hp,hq] <;> omega
theorem Ord.least{n:Int}{up:List Int}(h:Ord n up)(p:Nat->Prop){i:Nat}(hi:i<n.toNat)(hp:p i):∃ i,i<n.toNat/\p i/\∀ y,y<n.toNat->p y->le up y i->y=i:=by
 have key:∀ k i,((List.range n.toNat).filter fun x=>decide (le up x i)).length<=k->i<n.toNat->p i->∃ i,i<n.toNat/\p i/\∀ y,y<n.toNat->p y->le up y i->y=i:=by
  intro k
  induction k with
  | zero=>
   intro i hk hi _
   have:i∈(List.range n.toNat).filter fun x=>decide (le up x i):=zAM.2 ⟨zAF.2 hi,decide_eq_true (h.refl i hi)⟩
   have:=List.length_pos_of_mem this
   omega
  | succ k ih=>
   intro i hk hi hp
   by_cases hm:∃ y,y<n.toNat/\p y/\le up y i/\y≠i
   ·obtain⟨y,hy,hpy,hle,hne⟩:=hm
    refine ih y ?_ hy hpy
    have:=filter_lt (p:=fun x=>decide (le up x y)) (q:=fun x=>decide (le up x i)) (List.range n.toNat) (fun x hx h1=>decide_eq_true (h.trans x y i (zAF.1 hx) hy (zp h1) hle))
     ⟨i,zAF.2 hi,decide_eq_true (h.refl i hi),zAy fun h1=>hne (h.anti y i hy hi hle h1)⟩
    omega
   ·exact⟨i,hi,hp,fun y hy hpy hle=>Classical.byContradiction fun hne=>hm ⟨y,hy,hpy,hle,hne⟩⟩
 exact key _ i (Nat.le_refl _) hi hp
theorem qdc{R S:Type}{g:S->(S->Option R)->Option R}(n:Nat)(st:Nat->S){k:Option R}(h2:∀ i,i<n->∀ kn,g (st i) kn=kn (st (i+1)))(h3:∀ kn,g (st n) kn=k){N:Nat}(hN:n<N):loopD g N (st 0)=k:=by
 have key:∀ d N a,a+d=n->d<N->loopD g N (st a)=k:=by
  intro d
  induction d with
  | zero=>
   intro N a ha hd
   obtain⟨N,rfl⟩:∃ M,N=M+1:=⟨N - 1,by omega⟩
   obtain rfl:a=n:=by omega
   exact h3 _
  | succ d ih=>
   intro N a ha hd
   obtain⟨N,rfl⟩:∃ M,N=M+1:=⟨N - 1,by omega⟩
   show g (st a) (loopD g N)=k
   rw [h2 a (by omega)]
   exact ih N (a+1) (by omega) (by omega)
 exact key n N 0 (by omega) hN
end Go.Abs
