import Derived.Test.YtgnnhemoocfclaaDoorGhS
namespace Go.Proofs.YtgnnhemoocfclaaDoor.Gh
open Go.Abs Go.Gr
abbrev z5:Nd:=(0,0,0,0,0)
abbrev z3:Ed:=(0,0,0)
def inB(f:Int)(x:Nd):Bool:=if x.2.1>f then true else if x.2.1=f then (x.1 != 6) else false
def EdG(ns:List Nd)(es:List Ed)(f:Int)(a b:Nat):Prop:=∃ e∈es,e.1=(a:Int)/\e.2.1=(b:Int)/\inB f (nth z5 ns a)=true/\inB f (nth z5 ns b)=true
def RW(n:Nat)(way:List Bool)(a b:Nat):Prop:=nth false way (a*n+b)=true
instance (n:Nat) (way:List Bool) (a b:Nat):Decidable (RW n way a b):=by unfold RW;infer_instance
theorem qvR{α:Type}(z:α)(xs:List α)(i j:Nat)(y:α):nth z (xs.set i y) j=if i=j/\i<xs.length then y else nth z xs j:=by
 unfold nth
 simp only [zJ,zAZ]
 split
 ·rename_i h
  subst h
  by_cases hi:i<xs.length <;> simp [hi]
 ·rename_i h;simp [h]
section
variable {N : Nat} {ns : List Nd} {es : List Ed} {f : Int}
variable {E : Nat -> Nat -> Prop}
end
end Go.Proofs.YtgnnhemoocfclaaDoor.Gh
