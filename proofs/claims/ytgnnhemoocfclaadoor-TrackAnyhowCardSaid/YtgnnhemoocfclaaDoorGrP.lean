import Derived.Test.YtgnnhemoocfclaaDoorAbsOrd
namespace Go.Gr
inductive Pk (E:Nat->Nat->Prop) (k:Nat):Nat->Nat->Prop
 | one {a b:Nat}:E a b->Pk E k a b
 | cons {a m b:Nat}:E a m->m<k->Pk E k m b->Pk E k a b
variable {E : Nat -> Nat -> Prop} {k n : Nat}
theorem Pk.step{a b:Nat}(h:Pk E (k+1) a b):Pk E k a b\/(Pk E k a k/\Pk E k k b):=by
 induction h with
 | one h=>exact .inl (.one h)
 | cons h hm _ ih=>
  rename_i a m b _
  by_cases e:m=k
  ·subst e
   refine .inr ⟨.one h,?_⟩
   rcases ih with h | h
   ·exact h
   ·exact h.2
  ·rcases ih with h' | h'
   ·exact .inl (.cons h (by omega) h')
   ·exact .inr ⟨.cons h (by omega) h'.1,h'.2⟩
theorem Pk.more{a b l:Nat}(hl:k<=l)(h:Pk E k a b):Pk E l a b:=by
 induction h with
 | one h=>exact .one h
 | cons h hm _ ih=>exact .cons h (by omega) ih
theorem Pk.trans{a b c:Nat}(hb:b<k)(h:Pk E k a b)(h':Pk E k b c):Pk E k a c:=by
 induction h with
 | one h=>exact .cons h hb h'
 | cons h hm _ ih=>exact .cons h hm (ih hb h')
theorem Pk.none{a b:Nat}(h:Pk E 0 a b):E a b:=by
 cases h with
 | one h=>exact h
 | cons _ h _=>omega
theorem Pk.mono{E':Nat->Nat->Prop}(he:∀ a b,E a b->E' a b){a b:Nat}(h:Pk E k a b):Pk E' k a b:=by
 induction h with
 | one h=>exact .one (he _ _ h)
 | cons h hm _ ih=>exact .cons (he _ _ h) hm ih
def Btw(E:Nat->Nat->Prop)(n k:Nat)(R:Nat->Nat->Prop):Prop:=
 (∀ a b,a<n->b<n->R a b->Pk E n a b)/\∀ a b,a<n->b<n->Pk E k a b->R a b
def Rnd(E:Nat->Nat->Prop)(n k:Nat)(i j:Nat)(R:Nat->Nat->Prop):Prop:=
 Btw E n k R/\∀ a b,a<n->b<n->(a<i\/(a=i/\b<j))->Pk E k a k->Pk E k k b->R a b
theorem Rnd.start{R:Nat->Nat->Prop}(h:Btw E n k R):Rnd E n k 0 0 R:=⟨h,fun a b _ _ h=>by omega⟩
theorem Rnd.row{R:Nat->Nat->Prop}{i:Nat}(h:Rnd E n k i n R):Rnd E n k (i+1) 0 R:=
 ⟨h.1,fun a b ha hb hh=>h.2 a b ha hb (by omega)⟩
theorem Rnd.done{R:Nat->Nat->Prop}(h:Rnd E n k n 0 R):Btw E n (k+1) R:=
 ⟨h.1.1,fun a b ha hb hp=>by
  rcases hp.step with h1 | ⟨h1,h2⟩
  ·exact h.1.2 a b ha hb h1
  ·exact h.2 a b ha hb (by omega) h1 h2⟩
theorem Rnd.hit{R R':Nat->Nat->Prop}{i j:Nat}(hk:k<n)(hi:i<n)(hj:j<n)(h:Rnd E n k i j R)(h1:R i k)(h2:R k j)
  (hr:∀ a b,a<n->b<n->(R' a b↔R a b\/(a=i/\b=j))):Rnd E n k i (j+1) R':=by
 refine⟨⟨fun a b ha hb hh=>?_,fun a b ha hb hp=>(hr a b ha hb).2 (.inl (h.1.2 a b ha hb hp))⟩,fun a b ha hb hc p1 p2=>?_⟩
 ·rcases (hr a b ha hb).1 hh with h' | ⟨rfl,rfl⟩
  ·exact h.1.1 a b ha hb h'
  ·exact (h.1.1 _ _ ha hk h1).trans hk (h.1.1 _ _ hk hb h2)
 ·by_cases c:a=i/\b=j
  ·exact (hr a b ha hb).2 (.inr c)
  ·exact (hr a b ha hb).2 (.inl (h.2 a b ha hb (by omega) p1 p2))
end Go.Gr
