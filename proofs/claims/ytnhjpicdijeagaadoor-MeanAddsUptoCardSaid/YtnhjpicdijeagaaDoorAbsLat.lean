import Derived.Test.YtnhjpicdijeagaaDoorAbsOrd
namespace Go.Abs
theorem qys{R S K:Type}(g:K->S->(S->Option R)->Option R)(ap:K->S->Option R)(n:Nat)(I:Nat->S->Prop)(h2:∀ i s,i<n->I i s->∃ s',I (i+1) s'/\∀ k kn,g k s kn=kn s')(h3:∀ s,I n s->∀ k kn,g k s kn=ap k s){N:Nat}(hN:n<N){s:S}(h0:I 0 s) :
  ∃ s',I n s'/\∀ k,loopD (g k) N s=ap k s':=by
 have key:∀ d N a s,a+d=n->d<N->I a s->∃ s',I n s'/\∀ k,loopD (g k) N s=ap k s':=by
  intro d
  induction d with
  | zero=>
   intro N a s ha hd hi
   obtain⟨N,rfl⟩:∃ M,N=M+1:=⟨N - 1,by omega⟩
   obtain rfl:a=n:=by omega
   exact⟨s,hi,fun k=>h3 s hi k _⟩
  | succ d ih=>
   intro N a s ha hd hi
   obtain⟨N,rfl⟩:∃ M,N=M+1:=⟨N - 1,by omega⟩
   obtain⟨s',hi',e⟩:=h2 a s (by omega) hi
   obtain⟨s2,h,e2⟩:=ih N (a+1) s' (by omega) (by omega) hi'
   refine⟨s2,h,fun k=>?_⟩
   show g k s (loopD (g k) N)=ap k s2
   rw [e]
   exact e2 k
 exact key n N 0 s (by omega) hN h0
theorem qpC{R S K:Type}(g:K->S->(S->Option R)->Option R)(ap:K->S->Option R)(I fin:S->Prop)(μ:S->Nat)
  (h:∀ s,I s->(fin s/\∀ k kn,g k s kn=ap k s)\/∃ s',I s'/\μ s'<μ s/\∀ k kn,g k s kn=kn s'):∀ (N:Nat) (s:S),I s->μ s<N->∃ s',I s'/\fin s'/\∀ k,loopD (g k) N s=ap k s'
 | 0,_,_,hm=>absurd hm (zAd _)
 | N+1,s,hi,hm=>by
  rcases h s hi with⟨hf,e⟩ | ⟨s',hi',hlt,e⟩
  ·exact⟨s,hi,hf,fun k=>e k _⟩
  ·obtain⟨s2,h1,h2,e2⟩:=qpC g ap I fin μ h N s' hi' (by omega)
   refine⟨s2,h1,h2,fun k=>?_⟩
   show g k s (loopD (g k) N)=ap k s2
   rw [e]
   exact e2 k
structure Latt (m:Nat) (L:Nat->Nat->Prop) (J K:Nat->Nat->Nat) (b t:Nat):Prop where
 refl:∀ i,i<m->L i i
 anti:∀ i j,i<m->j<m->L i j->L j i->i=j
 trans:∀ i j k,i<m->j<m->k<m->L i j->L j k->L i k
 jlt:∀ x y,x<m->y<m->J x y<m
 klt:∀ x y,x<m->y<m->K x y<m
 jle:∀ x y d,x<m->y<m->d<m->(L (J x y) d↔L x d/\L y d)
 kle:∀ x y d,x<m->y<m->d<m->(L d (K x y)↔L d x/\L d y)
 blt:b<m
 tlt:t<m
 ble:∀ d,d<m->L b d
 tle:∀ d,d<m->L d t
section
variable {m : Nat} {L : Nat -> Nat -> Prop} {J K : Nat -> Nat -> Nat} {b t : Nat} (h : Latt m L J K b t)
include h
theorem Latt.eqU{x y:Nat}(hx:x<m)(hy:y<m)(e:∀ d,d<m->(L x d↔L y d)):x=y:=
 h.anti x y hx hy ((e y hy).2 (h.refl y hy)) ((e x hx).1 (h.refl x hx))
theorem Latt.eqD{x y:Nat}(hx:x<m)(hy:y<m)(e:∀ d,d<m->(L d x↔L d y)):x=y:=
 h.anti x y hx hy ((e x hx).1 (h.refl x hx)) ((e y hy).2 (h.refl y hy))
theorem Latt.turn:Latt m (fun i j=>L j i) K J t b where
 refl:=h.refl
 anti i j hi hj h1 h2:=h.anti i j hi hj h2 h1
 trans i j k hi hj hk h1 h2:=h.trans k j i hk hj hi h2 h1
 jlt:=h.klt
 klt:=h.jlt
 jle:=h.kle
 kle:=h.jle
 blt:=h.tlt
 tlt:=h.blt
 ble:=h.tle
 tle:=h.ble
theorem Latt.jl{x y:Nat}(hx:x<m)(hy:y<m):L x (J x y):=((h.jle x y _ hx hy (h.jlt x y hx hy)).1 (h.refl _ (h.jlt x y hx hy))).1
theorem Latt.jr{x y:Nat}(hx:x<m)(hy:y<m):L y (J x y):=((h.jle x y _ hx hy (h.jlt x y hx hy)).1 (h.refl _ (h.jlt x y hx hy))).2
theorem Latt.kl{x y:Nat}(hx:x<m)(hy:y<m):L (K x y) x:=h.turn.jl hx hy
theorem Latt.kr{x y:Nat}(hx:x<m)(hy:y<m):L (K x y) y:=h.turn.jr hx hy
end
theorem Latt.swap{m:Nat}{L L':Nat->Nat->Prop}{J K:Nat->Nat->Nat}{b t:Nat}(h:Latt m L J K b t)(e:∀ i j,i<m->j<m->(L' j i↔L i j)):Latt m L' K J t b where
 refl i hi:=(e i i hi hi).2 (h.refl i hi)
 anti i j hi hj h1 h2:=h.anti i j hi hj ((e i j hi hj).1 h2) ((e j i hj hi).1 h1)
 trans i j k hi hj hk h1 h2:=(e k i hk hi).2 (h.trans k j i hk hj hi ((e k j hk hj).1 h2) ((e j i hj hi).1 h1))
 jlt:=h.klt
 klt:=h.jlt
 jle x y d hx hy hd:=by rw [e d _ hd (h.klt x y hx hy),e d x hd hx,e d y hd hy];exact h.kle x y d hx hy hd
 kle x y d hx hy hd:=by rw [e _ d (h.jlt x y hx hy) hd,e x d hx hd,e y d hy hd];exact h.jle x y d hx hy hd
 blt:=h.tlt
 tlt:=h.blt
 ble d hd:=(e d t hd h.tlt).2 (h.tle d hd)
 tle d hd:=(e b d h.blt hd).2 (h.ble d hd)
theorem Latt.uniq{m:Nat}{L:Nat->Nat->Prop}{J K J' K':Nat->Nat->Nat}{b t b' t':Nat}(h:Latt m L J K b t)(h':Latt m L J' K' b' t') :
  (∀ x y,x<m->y<m->J x y=J' x y)/\(∀ x y,x<m->y<m->K x y=K' x y)/\b=b'/\t=t':=
 ⟨fun x y hx hy=>h.eqU (h.jlt x y hx hy) (h'.jlt x y hx hy) fun d hd=>by rw [h.jle x y d hx hy hd,h'.jle x y d hx hy hd],
  fun x y hx hy=>h.eqD (h.klt x y hx hy) (h'.klt x y hx hy) fun d hd=>by rw [h.kle x y d hx hy hd,h'.kle x y d hx hy hd],
  h.anti b b' h.blt h'.blt (h.ble _ h'.blt) (h'.ble _ h.blt),h.anti t t' h.tlt h'.tlt (h'.tle _ h.tlt) (h.tle _ h'.tlt)⟩
end Go.Abs
namespace Go.Abs
section
variable {m : Nat} {L : Nat -> Nat -> Prop} {J K : Nat -> Nat -> Nat} {b t : Nat} (h : Latt m L J K b t)
include h
end
end Go.Abs
