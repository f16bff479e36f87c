import Derived.Test.YtcjecibocjbdmaaAbsOrd
namespace Go.Abs
structure Latt (m:Nat) (L:Nat->Nat->Prop) (J K:Nat->Nat->Nat) (b t:Nat):Prop where
 refl:∀ i,i<m->L i i
 anti:∀ i j,i<m->j<m->L i j->L j i->i=j
 trans:∀ i j k,i<m->j<m->k<m->L i j->L j k->L i k
 jlt:∀ x y,x<m->y<m->J x y<m
 klt:∀ x y,x<m->y<m->K x y<m
 jle:∀ x y d,x<m->y<m->d<m->(L (J x y) d↔L x d/\L y d)
 kle:∀ x y d,x<m->y<m->d<m->(L d (K x y)↔L d x/\L d y)
 blt:b<m
 tlt:t<m
 ble:∀ d,d<m->L b d
 tle:∀ d,d<m->L d t
section
variable {m : Nat} {L : Nat -> Nat -> Prop} {J K : Nat -> Nat -> Nat} {b t : Nat} (h : Latt m L J K b t)
include h
theorem Latt.eqD{x y:Nat}(hx:x<m)(hy:y<m)(e:∀ d,d<m->(L d x↔L d y)):x=y:=
 h.anti x y hx hy ((e x hx).1 (h.refl x hx)) ((e y hy).2 (h.refl y hy))
theorem Latt.turn:Latt m (fun i j=>L j i) K J t b where
 refl:=h.refl
 anti i j hi hj h1 h2:=h.anti i j hi hj h2 h1
 trans i j k hi hj hk h1 h2:=h.trans k j i hk hj hi h2 h1
 jlt:=h.klt
 klt:=h.jlt
 jle:=h.kle
 kle:=h.jle
 blt:=h.tlt
 tlt:=h.blt
 ble:=h.tle
 tle:=h.ble
theorem Latt.jl{x y:Nat}(hx:x<m)(hy:y<m):L x (J x y):=((h.jle x y _ hx hy (h.jlt x y hx hy)).1 (h.refl _ (h.jlt x y hx hy))).1
theorem Latt.jr{x y:Nat}(hx:x<m)(hy:y<m):L y (J x y):=((h.jle x y _ hx hy (h.jlt x y hx hy)).1 (h.refl _ (h.jlt x y hx hy))).2
theorem Latt.kl{x y:Nat}(hx:x<m)(hy:y<m):L (K x y) x:=h.turn.jl hx hy
theorem Latt.kr{x y:Nat}(hx:x<m)(hy:y<m):L (K x y) y:=h.turn.jr hx hy
end
end Go.Abs
namespace Go.Abs
section
variable {m : Nat} {L : Nat -> Nat -> Prop} {J K : Nat -> Nat -> Nat} {b t : Nat} (h : Latt m L J K b t)
include h
end
end Go.Abs
