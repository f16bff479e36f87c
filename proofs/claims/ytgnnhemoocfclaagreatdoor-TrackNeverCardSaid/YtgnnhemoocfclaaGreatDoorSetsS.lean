import Derived.Test.YtgnnhemoocfclaaGreatDoorIter
import Derived.Test.YtgnnhemoocfclaaGreatDoorAbsLp
namespace Go.Proofs.YtgnnhemoocfclaaGreatDoor
open Go.Abs
theorem qCJ(N:Nat)(i:Nat):qcA N ((i:Int),())=some (one i,()):=by
 simp only [qcA,qsZ]
 rw [show decide ((i:Int)<0)=false from zBE (by omega)];rfl
theorem qFJ(N:Nat){w:Int}(hw:W32 w)(i:Nat):qcm N (w,(i:Int),())=some (bt w i,()):=by
 simp only [qcm,qjh]
 rw [show decide ((i:Int)<0)=false from zBE (by omega),qEK hw];rfl
theorem qvi(N:Nat)(w:Int):qaO N (w,())=some w:=rfl
theorem qDz{R S:Type}{f:Int->S->(S->Option R)->Option R}{k:S->Option R}{w:Int}(hw:W32 w)(st:S->Nat->S)(I:S->Prop)
  (h:∀ (i:Nat) s kn,i<32->bt w i=true->I s->f (i:Int) s kn=kn (st s i)/\I (st s i)) (s:S) (hi:I s):forD f k (qiF (w,())) s=k ((els w).foldl st s)/\I ((els w).foldl st s):=by
 rw [qtr hw]
 have hm:∀ i∈els w,i<32/\bt w i=true:=fun i hi=>qyZ.1 hi
 generalize els w=l at hm
 induction l generalizing s with
 | nil=>exact⟨rfl,hi⟩
 | cons i l ih=>
  obtain⟨h1,h2⟩:=hm i (by simp)
  have h3:=fun kn=>h i s kn h1 h2 hi
  rw [List.map_cons,qlk,(h3 _).1]
  exact ih _ (h3 fun _=>none).2 fun j hj=>hm j (by simp [hj])
end Go.Proofs.YtgnnhemoocfclaaGreatDoor
