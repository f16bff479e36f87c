import Derived.Test.YtnhjpicdijeagaaDoorAbsOpsS
namespace Go.Abs
section
variable {ρ : Type} {C : Ctx} {h : List O} {t t' : Nat -> V}
theorem cond_bind{α β:Type}(b:Bool)(x y:Option α)(K:α->Option β):(bif b then x else y).bind K=bif b then x.bind K else y.bind K:=by cases b <;> rfl
theorem binInt_nat(op:BinOp)(k:IntKind)(x y:Int)(K:V->Option ρ):binInt op k x y K=(binInt op k x y some).bind K:=by
 cases op <;> simp only [binInt,cond_bind,Option.bind_some,Option.bind_none]
theorem binBool_nat(op:BinOp)(x y:Bool)(K:V->Option ρ):binBool op x y K=(binBool op x y some).bind K:=by
 cases op <;> rfl
theorem binOpK_nat(op:BinOp)(ty:TypeId)(x y:V)(K:V->Option ρ):binOpK C op ty x y K=(binOpK C op ty x y some).bind K:=by
 cases x <;> cases y <;> simp only [binOpK,cond_bind,Option.bind_none]
 ·rw [binInt_nat];split <;> simp [Option.bind_none]
 ·rw [binBool_nat]
 ·unfold nilOp
  split
  ·rfl
  ·cases op <;> rfl
 ·unfold eqAggK
  split
  ·rfl
  ·rw [cond_bind]
   congr 1
   split
   ·rfl
   ·split
    ·rfl
    ·split
     ·rfl
     ·split <;> rfl
theorem unOpK_nat(op:UnOp)(x:V)(K:V->Option ρ):unOpK op x K=(unOpK op x some).bind K:=by
 cases x <;> cases op <;> rfl
theorem loadK_nat(ty:TypeId)(a:V)(K:V->Option ρ):loadK C h ty a K=(loadK C h ty a some).bind K:=by
 unfold loadK
 split
 ·rfl
 ·split
  ·rfl
  ·rw [cond_bind];rfl
theorem indexAgg_nat(size:Nat)(agg:Bool)(vs:List V)(i:Int)(K:V->Option ρ):(n j:Nat)->indexAgg size agg vs i K n j=(indexAgg size agg vs i some n j).bind K
 | 0,j=>rfl
 | n+1,j=>by simp only [indexAgg,cond_bind,Option.bind_some];rw [indexAgg_nat _ _ _ _ _ n]
theorem optInt_nat{α β:Type}(x:Option Operand)(d:Int)(K:Int->Option α)(L:α->Option β):(optInt t x d K).bind L=optInt t x d (fun y=>(K y).bind L):=by
 unfold optInt
 split
 ·rfl
 ·split <;> rfl
theorem buildK_nat(ty:TypeId)(ps:List (Nat×Operand))(K:V->Option ρ):buildK C t ty ps K=(buildK C t ty ps some).bind K:=by
 unfold buildK
 repeat' (first | rfl | split)
theorem fieldAddrK_nat(ty:TypeId)(x:V)(f:Nat)(K:V->Option ρ):fieldAddrK C h ty x f K=(fieldAddrK C h ty x f some).bind K:=by
 unfold fieldAddrK
 split
 ·rfl
 ·split
  ·split
   ·rfl
   ·rw [cond_bind]
    cases x <;> simp only [cond_bind,Option.bind_some,Option.bind_none]
    split <;> rfl
  ·rfl
theorem fieldK_nat(ty:TypeId)(x:V)(f:Nat)(K:V->Option ρ):fieldK C ty x f K=(fieldK C ty x f some).bind K:=by
 unfold fieldK
 split
 ·rfl
 ·split
  ·split
   ·rfl
   ·split
    ·rfl
    ·cases x <;> simp only [cond_bind,Option.bind_some,Option.bind_none]
  ·rfl
theorem indexAddrSK_nat(ty:TypeId)(x i:V)(K:V->Option ρ):indexAddrSK C h ty x i K=(indexAddrSK C h ty x i some).bind K:=by
 unfold indexAddrSK
 split
 ·rfl
 ·cases i <;> simp only [Option.bind_none]
  cases x <;> simp only [cond_bind,Option.bind_some,Option.bind_none]
  all_goals split <;> simp only [cond_bind,Option.bind_some,Option.bind_none]
theorem indexPtr_nat(o a size:Nat)(i:Int)(K:V->Option ρ):(n j:Nat)->indexPtr o a size i K n j=(indexPtr o a size i some n j).bind K
 | 0,j=>rfl
 | n+1,j=>by simp only [indexPtr,cond_bind,Option.bind_some];rw [indexPtr_nat _ _ _ _ _ n]
theorem indexAddrK_nat(ty:TypeId)(x i:V)(K:V->Option ρ):indexAddrK C h ty x i K=(indexAddrK C h ty x i some).bind K:=by
 unfold indexAddrK
 split
 ·cases i <;> simp only [Option.bind_none]
  cases x <;> simp only [cond_bind,Option.bind_none]
  rw [indexPtr_nat]
 ·exact indexAddrSK_nat ty x i K
theorem indexK_nat(ty:TypeId)(x i:V)(K:V->Option ρ):indexK C ty x i K=(indexK C ty x i some).bind K:=by
 unfold indexK
 split
 ·rfl
 ·split
  ·split
   ·rfl
   ·cases i <;> simp only [Option.bind_none]
    cases x <;> simp only [cond_bind,Option.bind_none]
    rw [indexAgg_nat]
  ·rfl
theorem indexStrK_nat(ty:TypeId)(s:ByteArray)(i:V)(K:V->Option ρ):indexStrK C ty s i K=(indexStrK C ty s i some).bind K:=rfl
theorem sliceAK_nat(ty:TypeId)(x:V)(lo hi:Option Operand)(K:V->Option ρ):sliceAK C ty x lo hi K=(sliceAK C ty x lo hi some).bind K:=by
 unfold sliceAK
 split
 ·rfl
 ·split
  ·rfl
  ·split
   ·rfl
   ·split
    ·rw [cond_bind];rfl
    ·rfl
theorem sliceFK_nat(ty:TypeId)(s:Sh)(y:s.den)(lo hi:Option Operand)(K:V->Option ρ):sliceFK C t ty s y lo hi K=(sliceFK C t ty s y lo hi some).bind K:=by
 unfold sliceFK
 split
 ·rfl
 split
 ·rfl
 split
 ·rfl
 rw [cond_bind]
 congr 1
 split
 ·rfl
 ·simp only [optInt_nat,cond_bind,Option.bind_none,Option.bind_some]
theorem sliceK_nat(ty:TypeId)(x:V)(lo hi:Option Operand)(K:V->Option ρ):sliceK C h t ty x lo hi K=(sliceK C h t ty x lo hi some).bind K:=by
 unfold sliceK
 split
 ·split
  ·exact sliceFK_nat _ _ _ _ _ _
  ·exact sliceAK_nat _ _ _ _ _
 ·cases x <;> (try simp only [cond_bind,Option.bind_none,optInt_nat,Option.bind_some])
  cases hi with
  | some _=>rfl
  | none=>
   simp only
   split
   ·simp only [cond_bind,Option.bind_none,optInt_nat,Option.bind_some]
   ·rfl
theorem lenK_nat(ty:TypeId)(x:V)(K:V->Option ρ):lenK C h ty x K=(lenK C h ty x some).bind K:=by
 unfold lenK
 repeat' (first | rfl | split)
theorem minmaxK_nat(m:Bool)(vs:List V)(K:V->Option ρ):minmaxK m vs K=(minmaxK m vs some).bind K:=by
 unfold minmaxK
 repeat' (first | rfl | split)
theorem callRK_nat(f:V)(args:List V)(K:V->Option ρ):callRK C h f args K=(callRK C h f args some).bind K:=by
 unfold callRK
 split
 ·split
  ·rfl
  ·split
   ·rename_i p _ _ _
    simp only [p.spOk]
    cases p.r <;> rfl
   ·rfl
 ·rfl
theorem convertK_nat(s d:TypeId)(x:V)(K:V->Option ρ):convertK C s d x K=(convertK C s d x some).bind K:=by
 unfold convertK
 repeat' (first | rfl | split)
theorem pickK_nat(c a b:V)(K:V->Option ρ):pickK c a b K=(pickK c a b some).bind K:=by
 cases c <;> simp only [pickK,cond_bind,Option.bind_some,Option.bind_none]
theorem nilCheckK_nat(x:V)(K:V->Option ρ):nilCheckK h x K=(nilCheckK h x some).bind K:=by
 cases x <;> simp only [nilCheckK,cond_bind,Option.bind_some,Option.bind_none]
theorem extractK_nat(x:V)(i:Nat)(K:V->Option ρ):extractK x i K=(extractK x i some).bind K:=by
 unfold extractK
 repeat' (first | rfl | split)
theorem lookupK_nat(ty:TypeId)(x i:V)(ok:Bool)(K:V->Option ρ):lookupK C h ty x i ok K=(lookupK C h ty x i ok some).bind K:=by
 unfold lookupK
 split
 ·rfl
 ·split
  ·rfl
  ·rw [cond_bind];rfl
theorem lookupNK_nat(ty:TypeId)(x i:V)(ok:Bool)(K:V->Option ρ):lookupNK C h ty x i ok K=(lookupNK C h ty x i ok some).bind K:=by
 unfold lookupNK
 split
 ·rfl
 ·split
  ·rfl
  ·split
   ·rfl
   ·simp only [cond_bind,Option.bind_none,Option.bind_some]
theorem entryNK_nat(x:V)(K:V->Option ρ):entryNK h x K=(entryNK h x some).bind K:=rfl
theorem lenNK_nat(x:V)(K:V->Option ρ):lenNK h x K=(lenNK h x some).bind K:=rfl
theorem entryK_nat(x:V)(K:V->Option ρ):entryK h x K=(entryK h x some).bind K:=by
 unfold entryK
 split
 ·exact entryNK_nat _ _
 ·split
  ·rw [cond_bind];rfl
  ·rfl
theorem lenMapK_nat(ty:TypeId)(x:V)(K:V->Option ρ):lenMapK C h ty x K=(lenMapK C h ty x some).bind K:=by
 unfold lenMapK
 split
 ·split
  ·rfl
  ·exact lenNK_nat _ _
 ·rfl
theorem callR_nat(c:Call)(K:V->Option ρ):callR C t h c K=(callR C t h c some).bind K:=by
 unfold callR
 split
 ·split
  ·split
   ·split
    ·exact lenMapK_nat _ _ _
    ·exact lenK_nat _ _ _
   ·rfl
  ·exact minmaxK_nat _ _ _
  ·exact minmaxK_nat _ _ _
  ·rfl
 ·split
  ·rfl
  ·exact callRK_nat _ _ _
theorem nilAns_nat(op:BinOp)(b:Bool)(K:V->Option ρ):nilAns op b K=(nilAns op b some).bind K:=by
 unfold nilAns
 split <;> rfl
theorem ptrNilK_nat(op:BinOp)(ty:TypeId)(x:V)(K:V->Option ρ):ptrNilK C op ty x K=(ptrNilK C op ty x some).bind K:=by
 unfold ptrNilK
 split
 ·rfl
 ·split
  ·split
   ·exact nilAns_nat _ _ _
   ·rw [cond_bind,nilAns_nat];rfl
   ·exact nilAns_nat _ _ _
   ·rfl
  ·rfl
theorem mapNilK_nat(op:BinOp)(ty:TypeId)(x:V)(K:V->Option ρ):mapNilK C h op ty x K=(mapNilK C h op ty x some).bind K:=by
 unfold mapNilK
 split
 ·rfl
 ·split
  ·split
   ·exact nilAns_nat _ _ _
   ·split
    ·rw [cond_bind,nilAns_nat];rfl
    ·rfl
   ·split
    ·rw [cond_bind,nilAns_nat];rfl
    ·rfl
   ·rfl
  ·rfl
theorem ifcNilK_nat(op:BinOp)(ty:TypeId)(x:V)(K:V->Option ρ):ifcNilK C op ty x K=(ifcNilK C op ty x some).bind K:=by
 unfold ifcNilK
 split
 ·rfl
 ·split
  ·split
   ·exact nilAns_nat _ _ _
   ·exact nilAns_nat _ _ _
   ·rfl
  ·rfl
theorem mkIfcK_nat(ty:TypeId)(x:V)(K:V->Option ρ):mkIfcK C ty x K=(mkIfcK C ty x some).bind K:=by
 unfold mkIfcK
 split
 ·rfl
 ·split <;> rfl
theorem evR_nat(o:Op)(K:V->Option ρ):evR C o t h K=(evR C o t h some).bind K:=by
 unfold evR
 split
 ·rfl
 ·rfl
 ·exact pickK_nat _ _ _ _
 ·split
  ·exact ifcNilK_nat _ _ _ _
  ·exact ptrNilK_nat _ _ _ _
  ·exact mapNilK_nat _ _ _ _
  ·exact binOpK_nat _ _ _ _ _
 ·exact mkIfcK_nat _ _ _
 ·exact unOpK_nat _ _ _
 ·exact convertK_nat _ _ _ _
 ·exact nilCheckK_nat _ _
 ·exact loadK_nat _ _ _
 ·exact fieldAddrK_nat _ _ _ _
 ·exact fieldK_nat _ _ _ _
 ·exact indexAddrK_nat _ _ _ _
 ·split
  ·exact indexStrK_nat _ _ _ _
  ·exact indexK_nat _ _ _ _
 ·exact extractK_nat _ _ _
 ·exact buildK_nat _ _ _
 ·split
  ·simp only [cond_bind,Option.bind_some,Option.bind_none]
  ·rfl
 ·split
  ·exact sliceK_nat _ _ _ _ _
  ·rfl
 ·split
  ·exact lookupNK_nat _ _ _ _ _
  ·exact lookupK_nat _ _ _ _ _
 ·exact entryK_nat _ _
 ·exact callR_nat _ _
 ·rfl
abbrev trip(v:V)(ss:List (Nat×O))(mk:Option O):Option (V×List (Nat×O)×Option O):=some (v,ss,mk)
theorem buildSliceK_nat(nid:Nat)(ty:TypeId)(n:Nat)(ps:List (Nat×Operand))(K:V->List (Nat×O)->Option O->Option ρ):buildSliceK C t h nid ty n ps K=(buildSliceK C t h nid ty n ps trip).bind fun p=>K p.1 p.2.1 p.2.2:=by
 unfold buildSliceK
 split
 ·rfl
 ·split
  ·rfl
  ·rw [cond_bind]
   split
   ·rfl
   ·split <;> rfl
theorem makeSliceK0_nat(nid:Nat)(ty:TypeId)(l c:V)(K:V->List (Nat×O)->Option O->Option ρ):makeSliceK0 C nid ty l c K=(makeSliceK0 C nid ty l c trip).bind fun p=>K p.1 p.2.1 p.2.2:=by
 unfold makeSliceK0
 split
 ·rfl
 ·split
  ·rfl
  ·cases l <;> simp only [Option.bind_none]
   cases c <;> simp only [cond_bind,Option.bind_some,Option.bind_none]
theorem makeSliceR_nat(nid:Nat)(ty:TypeId)(l c:V)(t:Kt)(K:V->List (Nat×O)->Option O->Option ρ):makeSliceR C nid ty l c t K=(makeSliceR C nid ty l c t trip).bind fun p=>K p.1 p.2.1 p.2.2:=by
 unfold makeSliceR
 split
 ·rfl
 ·cases l <;> simp only [Option.bind_none]
  cases c <;> simp only [cond_bind,Option.bind_some,Option.bind_none]
theorem makeSliceK_nat(nid:Nat)(ty:TypeId)(l c:V)(K:V->List (Nat×O)->Option O->Option ρ):makeSliceK C nid ty l c K=(makeSliceK C nid ty l c trip).bind fun p=>K p.1 p.2.1 p.2.2:=by
 unfold makeSliceK
 split
 ·exact makeSliceR_nat ..
 ·exact makeSliceK0_nat ..
theorem storeR_nat(ty:TypeId)(o ver i off:Nat)(v:V)(K:V->List (Nat×O)->Option O->Option ρ):storeR C h ty o ver i off v K=(storeR C h ty o ver i off v trip).bind fun p=>K p.1 p.2.1 p.2.2:=rfl
theorem storeK0_nat(ty:TypeId)(a v:V)(K:V->List (Nat×O)->Option O->Option ρ):storeK0 C h ty a v K=(storeK0 C h ty a v trip).bind fun p=>K p.1 p.2.1 p.2.2:=by
 unfold storeK0
 split
 ·rfl
 ·rw [cond_bind]
  cases a <;> simp only [Option.bind_none]
  ·split <;> simp only [cond_bind,Option.bind_some,Option.bind_none]
  ·split
   ·rw [cond_bind]
    split <;> rfl
   ·rfl
theorem storeK_nat(ty:TypeId)(a v:V)(K:V->List (Nat×O)->Option O->Option ρ):storeK C h ty a v K=(storeK C h ty a v trip).bind fun p=>K p.1 p.2.1 p.2.2:=by
 unfold storeK
 split
 ·split
  ·exact storeR_nat ..
  ·exact storeK0_nat ..
 ·exact storeK0_nat ..
theorem appendR_nat(nid:Nat)(ty:TypeId)(x y:V)(K:V->List (Nat×O)->Option O->Option ρ):appendR C h nid ty x y K=(appendR C h nid ty x y trip).bind fun p=>K p.1 p.2.1 p.2.2:=rfl
theorem appendK0_nat(nid:Nat)(ty:TypeId)(x y:V)(K:V->List (Nat×O)->Option O->Option ρ):appendK0 C h nid ty x y K=(appendK0 C h nid ty x y trip).bind fun p=>K p.1 p.2.1 p.2.2:=by
 unfold appendK0
 split
 ·rfl
 ·split
  ·rfl
  ·rw [cond_bind]
   split
   ·rfl
   ·cases x <;> simp only [Option.bind_none,cond_bind,Option.bind_some]
    split
    ·rw [cond_bind]
     split
     ·rfl
     ·rw [cond_bind];rfl
    ·rfl
theorem appendK_nat(nid:Nat)(ty:TypeId)(x y:V)(K:V->List (Nat×O)->Option O->Option ρ):appendK C h nid ty x y K=(appendK C h nid ty x y trip).bind fun p=>K p.1 p.2.1 p.2.2:=by
 unfold appendK
 split
 ·exact appendR_nat ..
 ·split
  ·exact appendR_nat ..
  ·exact appendK0_nat ..
 ·exact appendK0_nat ..
theorem copyK_nat(ty:TypeId)(x y:V)(K:V->List (Nat×O)->Option O->Option ρ):copyK C h ty x y K=(copyK C h ty x y trip).bind fun p=>K p.1 p.2.1 p.2.2:=by
 unfold copyK
 split
 ·rfl
 ·split
  ·rfl
  ·split
   ·rfl
   ·cases x <;> simp only [Option.bind_none]
    ·split
     ·rw [cond_bind]
      split <;> rfl
     ·rfl
    ·split
     ·rw [cond_bind]
      split <;> rfl
     ·rfl
theorem makeMapK_nat(nid:Nat)(ty:TypeId)(rs:Option V)(K:V->List (Nat×O)->Option O->Option ρ):makeMapK C nid ty rs K=(makeMapK C nid ty rs trip).bind fun p=>K p.1 p.2.1 p.2.2:=by
 unfold makeMapK
 split
 ·split
  ·rfl
  ·split <;> rfl
 ·split <;> rfl
theorem mapUpdateNK_nat(ty:TypeId)(m k x:V)(K:V->List (Nat×O)->Option O->Option ρ):mapUpdateNK C h ty m k x K=(mapUpdateNK C h ty m k x trip).bind fun p=>K p.1 p.2.1 p.2.2:=rfl
theorem rangeNK_nat(nid:Nat)(ty:TypeId)(x:V)(K:V->List (Nat×O)->Option O->Option ρ):rangeNK C h nid ty x K=(rangeNK C h nid ty x trip).bind fun p=>K p.1 p.2.1 p.2.2:=rfl
theorem mapUpdateHK_nat(ty:TypeId)(m k x:V)(K:V->List (Nat×O)->Option O->Option ρ):mapUpdateHK C h ty m k x K=(mapUpdateHK C h ty m k x trip).bind fun p=>K p.1 p.2.1 p.2.2:=by
 unfold mapUpdateHK
 split
 ·split
  ·rw [cond_bind]
   congr 1
   split
   ·rfl
   ·split
    ·split
     ·rw [cond_bind]
      congr 1
      split
      ·rfl
      ·rw [cond_bind];rfl
     ·rfl
    ·rfl
  ·rfl
 ·rfl
theorem mapUpdateK_nat(ty:TypeId)(m k x:V)(K:V->List (Nat×O)->Option O->Option ρ):mapUpdateK C h ty m k x K=(mapUpdateK C h ty m k x trip).bind fun p=>K p.1 p.2.1 p.2.2:=by
 unfold mapUpdateK
 split
 ·exact mapUpdateHK_nat _ _ _ _ _
 ·rw [cond_bind]
  congr 1
  split
  ·rfl
  ·split <;> rfl
theorem mapEntryK_nat(ty:TypeId)(m k:V)(K:V->List (Nat×O)->Option O->Option ρ):mapEntryK C h ty m k K=(mapEntryK C h ty m k trip).bind fun p=>K p.1 p.2.1 p.2.2:=by
 unfold mapEntryK
 split
 ·rfl
 ·rw [cond_bind]
  congr 1
  split <;> rfl
theorem entryStoreK_nat(ty:TypeId)(m s x:V)(K:V->List (Nat×O)->Option O->Option ρ):entryStoreK C h ty m s x K=(entryStoreK C h ty m s x trip).bind fun p=>K p.1 p.2.1 p.2.2:=by
 unfold entryStoreK
 split
 ·rfl
 ·rw [cond_bind]
  congr 1
  cases s <;> simp only [Option.bind_none]
  split
  ·rfl
  ·rw [cond_bind];rfl
theorem rangeK_nat(nid:Nat)(ty:TypeId)(x:V)(K:V->List (Nat×O)->Option O->Option ρ):rangeK C h nid ty x K=(rangeK C h nid ty x trip).bind fun p=>K p.1 p.2.1 p.2.2:=by
 unfold rangeK
 split <;> rfl
theorem deleteK_nat(ty:TypeId)(m k:V)(K:V->List (Nat×O)->Option O->Option ρ):deleteK C h ty m k K=(deleteK C h ty m k trip).bind fun p=>K p.1 p.2.1 p.2.2:=by
 unfold deleteK
 split
 ·rfl
 ·rw [cond_bind]
  congr 1
  split <;> rfl
theorem clearK_nat(ty:TypeId)(m:V)(K:V->List (Nat×O)->Option O->Option ρ):clearK C h ty m K=(clearK C h ty m trip).bind fun p=>K p.1 p.2.1 p.2.2:=by
 unfold clearK
 split
 ·rfl
 ·rw [cond_bind];rfl
theorem clearRowK_nat(ty:TypeId)(m:V)(K:V->List (Nat×O)->Option O->Option ρ):clearRowK C h ty m K=(clearRowK C h ty m trip).bind fun p=>K p.1 p.2.1 p.2.2:=rfl
theorem evS_nat(o:Op)(nid:Nat)(K:V->List (Nat×O)->Option O->Option ρ):evS C o t h nid K=(evS C o t h nid trip).bind fun p=>K p.1 p.2.1 p.2.2:=by
 unfold evS
 split
 ·split <;> rfl
 ·rw [cond_bind];rfl
 ·exact buildSliceK_nat _ _ _ _ _
 ·exact makeSliceK_nat _ _ _ _ _
 ·exact storeK_nat _ _ _ _
 ·exact makeMapK_nat _ _ _ _
 ·split
  ·exact mapUpdateNK_nat _ _ _ _ _
  ·exact mapUpdateK_nat _ _ _ _ _
 ·exact mapUpdateK_nat _ _ _ _ _
 ·exact mapEntryK_nat _ _ _ _
 ·exact entryStoreK_nat _ _ _ _ _
 ·split
  ·exact rangeNK_nat _ _ _ _
  ·exact rangeK_nat _ _ _ _
 ·rw [cond_bind]
  congr 1
  ·split
   ·exact deleteK_nat _ _ _ _
   ·rfl
  rw [cond_bind]
  congr 1
  ·split
   ·split
    ·exact clearK_nat _ _ _
    ·exact clearRowK_nat _ _ _
   ·rfl
  split
  ·rw [cond_bind,cond_bind,appendK_nat,copyK_nat];rfl
  ·rfl
 ·rfl
abbrev two(v:V)(h:List O):Option (V×List O):=some (v,h)
theorem callKK_nat(f o ver:Nat)(q:Nst)(d:q.sh.den)(i:Nat)(args:List V)(K:V->List O->Option ρ):callKK C h f o ver q d i args K=(callKK C h f o ver q d i args two).bind fun p=>K p.1 p.2:=rfl
theorem callWK_nat(f:V)(args:List V)(K:V->List O->Option ρ):callWK C h f args K=(callWK C h f args two).bind fun p=>K p.1 p.2:=by
 unfold callWK
 split
 ·split
  ·rename_i p _
   simp only [p.spOk]
   cases p.r <;> rfl
  ·split
   ·exact callKK_nat _ _ _ _ _ _ _ _
   ·rfl
 ·rfl
theorem boxSlK_nat(o:Op)(K:V->List O->Option ρ)(K':Option ρ)(K2:Option (V×List O))(hk:K'=K2.bind fun p=>K p.1 p.2):boxSlK C o t h K K'=(boxSlK C o t h two K2).bind fun p=>K p.1 p.2:=hk
theorem evW_nat(o:Op)(K:V->List O->Option ρ):evW C o t h K=(evW C o t h two).bind fun p=>K p.1 p.2:=by
 unfold evW
 rw [cond_bind]
 congr 1
 ·rw [evS_nat o h.length (fun v ss mk=>K v (setAll ss h++mk.toList)),evS_nat o h.length (fun v ss mk=>two v (setAll ss h++mk.toList))]
  cases evS C o t h h.length trip <;> rfl
 ·split
  ·exact callWK_nat _ _ _
  split
  ·rw [cond_bind];rfl
  split
  ·rw [cond_bind];rfl
  ·refine boxSlK_nat _ _ _ _ ?_
   rw [evR_nat o (fun v=>K v h),evR_nat o (fun v=>two v h)]
   cases evR C o t h some <;> rfl
theorem callN_nat(f:V)(args:List V)(K:O->Option ρ):callN C f args K=(callN C f args some).bind K:=by
 unfold callN
 split
 ·rw [cond_bind]
  congr 1
  split
  ·rfl
  ·split
   ·rfl
   ·rename_i p _ _ _ _
    simp only [p.spOk]
    cases p.r with
    | none=>rfl
    | some a=>
     simp only [Option.bind_some]
     split <;> rfl
 ·rfl
theorem callS_nat(ids:List Nat)(f:V)(args:List V)(K:V->List O->Option ρ):callS C h ids f args K=(callS C h ids f args two).bind fun p=>K p.1 p.2:=by
 unfold callS
 split
 ·rw [cond_bind]
  congr 1
  split
  ·rfl
  ·split
   ·rfl
   ·rename_i p _ _ _ _
    simp only [p.spOk]
    cases p.r with
    | none=>rfl
    | some a=>simp only [Option.bind_some,cond_bind];rfl
 ·rfl
theorem evM_nat(o:Op)(md:Md)(K:V->List O->Option ρ):evM C o t h md K=(evM C o t h md two).bind fun p=>K p.1 p.2:=by
 cases md with
 | pure=>simp only [evM];rw [evR_nat o (fun v=>K v h),evR_nat o (fun v=>two v h)];cases evR C o t [] some <;> rfl
 | rd ids=>simp only [evM];rw [evR_nat o (fun v=>K v h),evR_nat o (fun v=>two v h)];cases evR C o t (onlyF (memN ids) 0 h) some <;> rfl
 | wr ids=>
  simp only [evM,cond_bind,Option.bind_none]
  congr 1
  ·refine (evS_nat o 0 _).trans (Eq.trans ?_ (congrArg (fun z=>Option.bind z fun p:V×List O=>K p.1 p.2) (evS_nat o 0 _).symm))
   cases evS C o t (onlyF (memN ids) 0 h) 0 trip with
   | none=>rfl
   | some p=>
    obtain⟨v,ss,mk⟩:=p
    cases mk <;> simp only [Option.bind_some,cond_bind,Option.bind_none]
  ·split
   ·exact callS_nat _ _ _ _
   ·split
    ·split <;> simp only [cond_bind,Option.bind_none] <;> rfl
    ·split <;> simp only [cond_bind,Option.bind_none] <;> rfl
 | new id=>
  simp only [evM,cond_bind,Option.bind_none]
  congr 1
  ·refine (evS_nat o id _).trans (Eq.trans ?_ (congrArg (fun z=>Option.bind z fun p:V×List O=>K p.1 p.2) (evS_nat o id _).symm))
   cases evS C o t [] id trip with
   | none=>rfl
   | some p=>
    obtain⟨v,ss,mk⟩:=p
    cases ss <;> cases mk <;> simp only [Option.bind_some,Option.bind_none]
    split <;> simp only [cond_bind,Option.bind_some,Option.bind_none]
  split
  ·refine (callN_nat _ _ _).trans (Eq.trans ?_ (congrArg (fun z=>Option.bind z fun p:V×List O=>K p.1 p.2) (callN_nat _ _ _).symm))
   cases callN C _ _ some with
   | none=>rfl
   | some x=>
    simp only [Option.bind_some]
    split <;> simp only [cond_bind,Option.bind_some,Option.bind_none]
  ·rfl
 | full=>exact evW_nat o K
end
end Go.Abs
namespace Go.Abs
section
variable {ρ : Type} {C : Ctx} {h h' : List O} {t t' : Nat -> V}
def Same(t t':Nat->V)(o:Op):Prop:=∀ i∈opTmps o,t i=t' i
theorem ev_congr{x:Operand}(hx:∀ i,x=.tmp i->t i=t' i):ev t x=ev t' x:=by
 cases x with
 | tmp i=>exact hx i rfl
 | _=>rfl
theorem Same.ev{o:Op}(hs:Same t t' o){x:Operand}(hx:x∈o.operands):ev t x=ev t' x:=
 ev_congr fun i hi=>hs i (by
  subst hi
  exact zBP.2 ⟨.tmp i,by simpa using hx,rfl⟩)
theorem fillV_congr{place:Nat->Option (Nat×Nat)}:(ps:List (Nat×Operand))->(vs:List V)->(∀ p∈ps,ev t p.2=ev t' p.2)->fillV place t ps vs=fillV place t' ps vs
 | [],vs,_=>rfl
 | (i,x) :: r,vs,hp=>by
  have hx:=hp (i,x) (by simp)
  simp only at hx
  simp only [fillV,hx]
  split
  ·rfl
  ·rw [fillV_congr r _ fun p hm=>hp p (by simp [hm])]
theorem map_congr'{xs:List Operand}(hx:∀ x∈xs,ev t x=ev t' x):xs.map (ev t)=xs.map (ev t'):=List.map_congr_left hx
theorem callR_congr{c:Call}(hx:∀ x∈c.operands,ev t x=ev t' x)(K:V->Option ρ):callR C t h c K=callR C t' h c K:=by
 have hargs:∀ x∈c.args,ev t x=ev t' x:=fun x hm=>hx x (by simp [Call.operands,hm])
 have hm:=map_congr' (t:=t) (t':=t') (xs:=c.args.toList) (fun x hm=>hargs x (by simpa using hm))
 unfold callR
 split
 ·split
  ·split
   ·rename_i x ty e _
    rw [hargs x (zAm e)]
   ·rfl
  ·rw [hm]
  ·rw [hm]
  ·rfl
 ·have:callT C.T t (.call c)=callT C.T t' (.call c):=by
   unfold callT
   simp only
   split
   ·rename_i f hf
    rw [hm,hx f (by simp [Call.operands,hf])]
   ·rename_i r nm hf
    rw [hm,hx r (by simp [Call.operands,hf])]
   ·rfl
  rw [this]
theorem evR_congr{o:Op}(hs:Same t t' o)(K:V->Option ρ):evR C o t h K=evR C o t' h K:=by
 have hev:∀ x∈o.operands,ev t x=ev t' x:=fun x hx=>hs.ev hx
 cases o <;> simp only [Op.operands] at hev <;> simp only [evR]
 case build ty ps=>
  unfold buildK
  have:=fun place vs=>fillV_congr (place:=place) ps.toList vs (fun p hp=>hev p.2 (by simp;exact⟨p.1,by simpa using hp⟩))
  simp only [this]
 case makeFunc fn first caps=>
  rw [map_congr' (xs:=caps.toList) fun x hx=>hev x (by simp;exact .inr (by simpa using hx)),map_congr' (xs:=first.toList) fun x hx=>hev x (by simp;exact .inl (by simpa using hx))]
 case slice ty x lo hi mx=>
  have h1:=hev x (by simp)
  have h2:∀ d (K:Int->Option ρ),optInt t lo d K=optInt t' lo d K:=fun d K=>by
   cases lo with
   | none=>rfl
   | some y=>simp only [optInt,hev y (by simp)]
  have h3:∀ d (K:Int->Option ρ),optInt t hi d K=optInt t' hi d K:=fun d K=>by
   cases hi with
   | none=>rfl
   | some y=>simp only [optInt,hev y (by simp)]
  cases mx <;> simp only [sliceK,sliceFK,h1,h2,h3]
 case call c=>exact callR_congr (by simpa using hev) K
 all_goals (first | rfl | (simp_all;done))
theorem evS_congr{o:Op}(hs:Same t t' o)(nid:Nat)(K:V->List (Nat×O)->Option O->Option ρ):evS C o t h nid K=evS C o t' h nid K:=by
 have hev:∀ x∈o.operands,ev t x=ev t' x:=fun x hx=>hs.ev hx
 cases o <;> simp only [Op.operands] at hev <;> simp only [evS]
 case buildSlice ty n ps=>
  unfold buildSliceK
  have:=fun place vs=>fillV_congr (place:=place) ps.toList vs (fun p hp=>hev p.2 (by simp;exact⟨p.1,by simpa using hp⟩))
  simp only [this]
 case call c=>
  have hargs:∀ x∈c.args,ev t x=ev t' x:=fun x hm=>hev x (by simp [Call.operands,hm])
  congr 1
  ·split
   ·rename_i x y ty e1 e2 _
    rw [hargs x (zAm e1),hargs y (zAm e2)]
   ·rfl
  congr 1
  ·split
   ·rename_i x ty e1 _
    rw [hargs x (zAm e1)]
   ·rfl
  split
  ·rename_i x y ty ty' e1 e2 _ _
   rw [hargs x (zAm e1),hargs y (zAm e2)]
  ·rfl
 case makeMap ty rs=>
  cases rs with
  | none=>rfl
  | some x=>simp only [Option.map_some,hev x (by simp)]
 all_goals (first | rfl | (simp_all;done))
theorem callT_congr{T:List (Nat×TE)}{o:Op}(hs:Same t t' o):callT T t o=callT T t' o:=by
 unfold callT
 split
 ·rename_i c
  have hc:∀ x∈c.operands,ev t x=ev t' x:=fun x hx=>hs.ev (by simpa [Op.operands] using hx)
  have hm:=map_congr' (t:=t) (t':=t') (xs:=c.args.toList) (fun x hm=>hc x (by simp [Call.operands];exact .inr (by simpa using hm)))
  split
  ·rename_i f hf
   rw [hm,hc f (by simp [Call.operands,hf])]
  ·rename_i r nm hf
   rw [hm,hc r (by simp [Call.operands,hf])]
  ·rfl
 ·rfl
theorem boxSlK_congr{o:Op}(hs:Same t t' o)(K:V->List O->Option ρ)(K':Option ρ):boxSlK C o t h K K'=boxSlK C o t' h K K':=rfl
theorem takeO_congr{o:Op}(hs:Same t t' o)(nid:Nat):takeO C o t h nid=takeO C o t' h nid:=by
 cases o with
 | lookup ty x i ok=>
  have e1:=hs.ev (x:=x) (by simp [Op.operands])
  have e2:=hs.ev (x:=i) (by simp [Op.operands])
  cases ok <;> simp only [takeO,e1,e2]
 | load ty x=>
  have e1:=hs.ev (x:=x) (by simp [Op.operands])
  simp only [takeO,e1]
 | _=>rfl
theorem dropO_congr{o:Op}(hs:Same t t' o):dropO C o t h=dropO C o t' h:=rfl
theorem evM_congr{o:Op}(hs:Same t t' o)(md:Md)(K:V->List O->Option ρ):evM C o t h md K=evM C o t' h md K:=by
 cases md <;> simp only [evM]
 ·exact evR_congr hs _
 ·exact evR_congr hs _
 ·rw [evS_congr hs,callT_congr hs,takeO_congr hs,dropO_congr hs]
 ·rw [evS_congr hs,callT_congr hs]
 ·unfold evW
  rw [evS_congr hs,evR_congr hs,callT_congr hs,boxSlK_congr hs,takeO_congr hs,dropO_congr hs]
def Md.sees:Md->Nat->Prop
 | .pure,_=>False
 | .rd ids,i=>memN ids i=true
 | .wr ids,i=>memN ids i=true
 | .new id,i=>i=id
 | .full,_=>True
def Md.foot:Md->Nat->Prop
 | .pure,_=>False
 | .rd _,_=>False
 | .wr ids,i=>memN ids i=true
 | .new id,i=>i=id
 | .full,_=>True
def Md.isFull:Md->Bool
 | .full=>true
 | _=>false
def Md.isPure:Md->Bool
 | .pure=>true
 | _=>false
structure Agree (md:Md) (h h':List O):Prop where
 len:md.isPure=false->h.length=h'.length
 get:∀ i,md.sees i->getO h i=getO h' i
theorem ext_getO{h h':List O}(hl:h.length=h'.length)(hg:∀ i,getO h i=getO h' i):h=h':=by
 apply List.ext_getElem hl
 intro i h1 h2
 have:=hg i
 simpa [getO,List.getD,h1,h2] using this
theorem onlyF_length(p:Nat->Bool):(i:Nat)->(h:List O)->(onlyF p i h).length=h.length
 | _,[]=>rfl
 | i,x :: h=>by simp [onlyF,onlyF_length p (i+1) h]
theorem onlyF_agree{ids:List Nat}(hl:h.length=h'.length)(hg:∀ i,memN ids i=true->getO h i=getO h' i):onlyF (memN ids) 0 h=onlyF (memN ids) 0 h':=by
 apply ext_getO
 ·rw [onlyF_length,onlyF_length,hl]
 ·intro i
  rw [onlyF_get,onlyF_get,Nat.zero_add]
  split
  ·exact hg i ‹_›
  ·rfl
theorem getO_setAll_ne:(ss:List (Nat×O))->(h:List O)->(i:Nat)->(∀ p∈ss,p.1≠i)->getO (setAll ss h) i=getO h i
 | [],h,i,_=>rfl
 | (j,x) :: r,h,i,hp=>by
  simp only [setAll]
  rw [getO_setAll_ne r _ i fun p hm=>hp p (by simp [hm])]
  have:=hp (j,x) (by simp)
  simp only at this
  simp [getO,List.getD,zAw this]
theorem getO_set_same{h h':List O}(hl:h.length=h'.length){i j:Nat}{x:O}(hg:getO h i=getO h' i):getO (h.set j x) i=getO (h'.set j x) i:=by
 simp only [getO,List.getD,zAb] at hg ⊢
 rw [hl]
 split
 ·rfl
 ·exact hg
theorem getO_setAll_same:(ss:List (Nat×O)) -> {h h':List O}->h.length=h'.length->(i:Nat)->getO h i=getO h' i->getO (setAll ss h) i=getO (setAll ss h') i
 | [],h,h',_,i,hg=>hg
 | (j,x) :: r,h,h',hl,i,hg=>getO_setAll_same r (by simp [hl]) i (getO_set_same hl hg)
theorem callS_some{h:List O}{ids:List Nat}{f:V}{args:List V}{v:V}{H:List O}(he:callS C h ids f args two=some (v,H)) :
  ∃ g caps p u a,f=.clo g caps/\refsInL ids (argsF g args caps)=true/\clsd ids (onlyF (memN ids) 0 h)=true/\C.G (tgtF g) (argsF g args caps) (onlyF (memN ids) 0 h)=some p/\p.h=some u/\p.r=some a /\
   (u a (onlyF (memN ids) 0 h)).length=h.length/\noneOut (memN ids) 0 (u a (onlyF (memN ids) 0 h))=true/\v=p.v a/\H=mixF (memN ids) 0 (u a (onlyF (memN ids) 0 h)) h:=by
 unfold callS at he
 split at he
 ·rename_i g caps
  obtain⟨hc,he⟩:=cond_some he
  rw [zA] at hc
  split at he
  ·cases he
  ·rename_i p hp
   split at he
   ·cases he
   ·rename_i u hu
    cases hr:p.r with
    | none=>rw [hr] at he;cases he
    | some a=>
     rw [hr] at he
     simp only [Option.bind_some,p.spOk] at he
     obtain⟨hl,he⟩:=cond_some he
     rw [zA] at hl
     cases he
     exact⟨g,caps,p,u,a,rfl,hc.1,hc.2,hp,hu,hr,zB hl.1,hl.2,rfl,rfl⟩
 ·cases he
theorem evM_foot{o:Op}{md:Md}{v:V}{H:List O}(he:evM C o t h md two=some (v,H)):(∀ i,¬ md.foot i->getO H i=getO h i)/\(md.isFull=false->H.length=h.length):=by
 cases md with
 | pure=>
  simp only [evM] at he
  rw [evR_nat o] at he
  obtain⟨u,_,he⟩:=zU.1 he
  cases he
  exact⟨fun _ _=>rfl,fun _=>rfl⟩
 | rd ids=>
  simp only [evM] at he
  rw [evR_nat o] at he
  obtain⟨u,_,he⟩:=zU.1 he
  cases he
  exact⟨fun _ _=>rfl,fun _=>rfl⟩
 | wr ids=>
  simp only [evM] at he
  cases hS:isS o with
  | false=>
   rw [hS,cond_false] at he
   split at he
   ·obtain⟨g,caps,p,u,a,-,-,-,-,-,-,hl,-,-,rfl⟩:=callS_some he
    exact⟨fun i hn=>by rw [mixF_get _ _ _ _ hl,Nat.zero_add,zL (show ¬ memN ids i=true from hn)],fun _=>mixF_length _ _ _ _ hl⟩
   ·split at he
    ·rename_i p hp
     split at he
     ·rename_i hg
      obtain⟨hi,he⟩:=cond_some he
      simp only [zA] at hi
      obtain⟨_,he⟩:=cond_some he
      cases he
      refine⟨fun i hn=>?_,fun _=>by rw [zBE,setAll_length]⟩
      have hne:ids.headD 0≠i:=fun e=>hn (by rw [<- e];exact hi.1)
      have e1:getO ((setAll p.2.1 h).set (ids.headD 0) p.2.2) i=getO (setAll p.2.1 h) i:=by unfold getO;rw [zJ,zJ,zAw hne]
      rw [e1]
      refine getO_setAll_ne p.2.1 h i fun q hq e=>hn ?_
      have:=zm.1 hi.2.2 q hq
      rw [e] at this
      exact this
     ·cases he
    ·split at he
     ·rename_i p hp
      obtain⟨hi,he⟩:=cond_some he
      cases he
      refine⟨fun i hn=>?_,fun _=>by rw [zBE]⟩
      rw [zA] at hi
      have hne:p.2.2.1≠i:=fun e=>hn (by rw [<- e];exact hi.1)
      unfold getO;rw [zJ,zJ,zAw hne]
     ·cases he
  | true=>
  rw [hS,cond_true] at he
  rw [evS_nat o] at he
  obtain⟨⟨u,ss,mk⟩,_,he⟩:=zU.1 he
  cases mk with
  | some x=>cases he
  | none=>
   simp only at he
   obtain⟨hi,he⟩:=cond_some he
   cases he
   refine⟨fun i hn=>getO_setAll_ne ss h i fun p hp e=>hn ?_,fun _=>setAll_length _ _⟩
   have:=zm.1 hi p hp
   rw [e] at this
   exact this
 | new id=>
  simp only [evM] at he
  cases hS:isS o with
  | true=>
   rw [hS,cond_true,evS_nat o] at he
   obtain⟨⟨u,ss,mk⟩,_,he⟩:=zU.1 he
   cases ss with
   | cons p ss=>cases he
   | nil=>
    cases mk with
    | none=>cases he
    | some x=>
     simp only at he
     cases hg:getO h id with
     | none=>
      rw [hg] at he
      simp only at he
      obtain⟨_,he⟩:=cond_some he
      cases he
      refine⟨fun i hn=>?_,fun _=>by simp⟩
      have hn:id≠i:=fun e=>hn e.symm
      simp [getO,List.getD,zAw hn]
     | cells vs=>rw [hg] at he;cases he
     | nst _ _ _=>rw [hg] at he;cases he
     | kds _ _ _ _ _=>rw [hg] at he;cases he
     | gone=>rw [hg] at he;cases he
     | oth fz q d=>rw [hg] at he;cases he
     | row fz ver e s xs=>rw [hg] at he;cases he
  | false=>
   rw [hS,cond_false] at he
   split at he
   ·rw [callN_nat] at he
    obtain⟨x,_,he⟩:=zU.1 he
    cases hg:getO h id with
    | none=>
     rw [hg] at he
     simp only at he
     obtain⟨_,he⟩:=cond_some he
     cases he
     refine⟨fun i hn=>?_,fun _=>by simp⟩
     have hn:id≠i:=fun e=>hn e.symm
     simp [getO,List.getD,zAw hn]
    | cells vs=>rw [hg] at he;cases he
    | nst _ _ _=>rw [hg] at he;cases he
    | kds _ _ _ _ _=>rw [hg] at he;cases he
    | gone=>rw [hg] at he;cases he
    | oth fz q d=>rw [hg] at he;cases he
    | row fz ver e s xs=>rw [hg] at he;cases he
   ·cases he
 | full=>exact⟨fun i hn=>absurd trivial hn,fun hf=>by cases hf⟩
theorem evM_loc{o:Op}{md:Md}{v:V}{H:List O}(ha:Agree md h h')(he:evM C o t h md two=some (v,H)) :
  ∃ H',evM C o t h' md two=some (v,H')/\∀ i,md.foot i->getO H i=getO H' i:=by
 cases md with
 | pure=>
  simp only [evM] at he ⊢
  rw [evR_nat o] at he
  obtain⟨u,h1,he⟩:=zU.1 he
  cases he
  refine⟨h',?_,fun i hf=>hf.elim⟩
  rw [evR_nat o,h1];rfl
 | rd ids=>
  simp only [evM] at he ⊢
  rw [evR_nat o] at he
  obtain⟨u,h1,he⟩:=zU.1 he
  cases he
  refine⟨h',?_,fun i hf=>hf.elim⟩
  rw [evR_nat o,<- onlyF_agree (ha.len rfl) ha.get,h1];rfl
 | wr ids=>
  simp only [evM] at he ⊢
  have hof:=onlyF_agree (ids:=ids) (ha.len rfl) ha.get
  cases hS:isS o with
  | false=>
   rw [hS,cond_false] at he
   rw [cond_false]
   split at he
   ·rename_i f args hc
    obtain⟨g,caps,p,u,a,e1,e2,e3,e4,e5,e6,hl,e7,rfl,rfl⟩:=callS_some he
    have hl':(u a (onlyF (memN ids) 0 h')).length=h'.length:=by rw [<- hof,hl];exact ha.len rfl
    refine⟨mixF (memN ids) 0 (u a (onlyF (memN ids) 0 h')) h',?_,fun i hf=>?_⟩
    ·simp only [callS,e1,e2,<- hof,e3,Bool.and_self,cond_true,e4,e5,e6,Option.bind_some,p.spOk,e7]
     rw [show Nat.beq (u a (onlyF (memN ids) 0 h)).length h'.length=true by rw [hof,hl'];exact Nat.beq_refl _];rfl
    ·rw [mixF_get _ _ _ _ hl,mixF_get _ _ _ _ hl',Nat.zero_add,zK (show memN ids i=true from hf),zK (show memN ids i=true from hf),hof]
   ·rw [<- hof]
    split at he
    ·rename_i p hp
     split at he
     ·rename_i hg
      obtain⟨hi,he⟩:=cond_some he
      have hi':=hi
      simp only [zA] at hi'
      obtain⟨hgo,he⟩:=cond_some he
      cases he
      have hg':getO h' (ids.headD 0)=.none:=by rw [<- ha.get _ hi'.1,hg]
      refine⟨(setAll p.2.1 h').set (ids.headD 0) p.2.2,?_,fun i hf=>getO_set_same (by rw [setAll_length,setAll_length];exact ha.len rfl) (getO_setAll_same p.2.1 (ha.len rfl) i (ha.get i hf))⟩
      simp only [hg',<- ha.len rfl,hi,hgo,cond_true]
     ·cases he
    ·split at he
     ·rename_i p hp
      obtain⟨hi,he⟩:=cond_some he
      cases he
      exact⟨h'.set p.2.2.1 p.2.2.2,by simp only [hi,cond_true],fun i hf=>getO_set_same (ha.len rfl) (ha.get i hf)⟩
     ·cases he
  | true=>
  rw [hS,cond_true] at he
  rw [evS_nat o] at he
  obtain⟨⟨u,ss,mk⟩,h1,he⟩:=zU.1 he
  cases mk with
  | some x=>cases he
  | none=>
   simp only at he
   obtain⟨hi,he⟩:=cond_some he
   cases he
   refine⟨setAll ss h',?_,fun i hf=>getO_setAll_same ss (ha.len rfl) i (ha.get i hf)⟩
   rw [cond_true,evS_nat o,<- onlyF_agree (ha.len rfl) ha.get,h1]
   simp only [Option.bind_some,hi,cond_true]
 | new id=>
  simp only [evM] at he ⊢
  cases hS:isS o with
  | true=>
   rw [hS,cond_true,evS_nat o] at he
   obtain⟨⟨u,ss,mk⟩,h1,he⟩:=zU.1 he
   cases ss with
   | cons p ss=>cases he
   | nil=>
    cases mk with
    | none=>cases he
    | some x=>
     simp only at he
     cases hg:getO h id with
     | none=>
      rw [hg] at he
      simp only at he
      obtain⟨hlt,he⟩:=cond_some he
      cases he
      have hg':getO h' id=.none:=by rw [<- ha.get id rfl,hg]
      refine⟨h'.set id x,?_,fun i hf=>?_⟩
      ·rw [cond_true,evS_nat o,h1]
       simp only [Option.bind_some,hg',<- ha.len rfl,hlt,cond_true]
      ·exact getO_set_same (ha.len rfl) (ha.get i hf)
     | cells vs=>rw [hg] at he;cases he
     | nst _ _ _=>rw [hg] at he;cases he
     | kds _ _ _ _ _=>rw [hg] at he;cases he
     | gone=>rw [hg] at he;cases he
     | oth fz q d=>rw [hg] at he;cases he
     | row fz ver e s xs=>rw [hg] at he;cases he
  | false=>
   rw [hS,cond_false] at he
   rw [cond_false]
   split at he
   ·rename_i f args hc
    rw [callN_nat] at he
    obtain⟨x,h1,he⟩:=zU.1 he
    cases hg:getO h id with
    | none=>
     rw [hg] at he
     simp only at he
     obtain⟨hlt,he⟩:=cond_some he
     cases he
     have hg':getO h' id=.none:=by rw [<- ha.get id rfl,hg]
     refine⟨h'.set id x,?_,fun i hf=>?_⟩
     ·rw [callN_nat,h1]
      simp only [Option.bind_some,hg',<- ha.len rfl,hlt,cond_true]
     ·exact getO_set_same (ha.len rfl) (ha.get i hf)
    | cells vs=>rw [hg] at he;cases he
    | nst _ _ _=>rw [hg] at he;cases he
    | kds _ _ _ _ _=>rw [hg] at he;cases he
    | gone=>rw [hg] at he;cases he
    | oth fz q d=>rw [hg] at he;cases he
    | row fz ver e s xs=>rw [hg] at he;cases he
   ·cases he
 | full=>
  have:h=h':=ext_getO (ha.len rfl) fun i=>ha.get i trivial
  subst this
  exact⟨H,he,fun _ _=>rfl⟩
theorem memN_disj{a b:List Nat}(hd:disj a b=true){i:Nat}(ha:memN a i=true)(hb:memN b i=true):False:=by
 unfold memN at ha
 obtain⟨x,hx,he⟩:=zBd.1 ha
 have he:=zB he
 subst he
 have:=zm.1 hd i hx
 simp [hb] at this
theorem mdOk_spec{a b:Md}(hm:mdOk a b=true):(∀ i,a.foot i->¬ b.sees i)/\(∀ i,b.foot i->¬ a.sees i)/\(a.isFull=true->b.isPure=true)/\(b.isFull=true->a.isPure=true):=by
 have hne:∀ {ids:List Nat} {j:Nat},(!memN ids j)=true->memN ids j=true->False:=fun {ids j} h1 h2=>by simp [h2] at h1
 cases a <;> cases b <;> simp only [mdOk,zA,zAB] at hm <;>
  refine⟨fun i hf hs=>?_,fun i hf hs=>?_,fun hh=>?_,fun hh=>?_⟩ <;>
  simp only [Md.foot,Md.sees,Md.isFull,Md.isPure,zAB] at * <;>
  first
   | (subst hf;subst hs;simp at hm;done)
   | (subst hf;exact hne hm hs)
   | (subst hs;exact hne hm hf)
   | exact memN_disj hm hf hs
   | exact memN_disj hm hs hf
   | exact memN_disj hm.1 hf hs
   | exact memN_disj hm.1 hs hf
end
end Go.Abs
namespace Go.Abs
section
variable {ρ : Type} {C : Ctx} {all : List Oper}
abbrev S:=(Nat->V)×List O
def upd(dst:Option Tmp)(v:V)(t:Nat->V):Nat->V:=
 match dst with
 | none=>t
 | some d=>fun i=>bif Nat.beq d i then v else t i
def okDst(n:Nat):Option Tmp->Bool
 | none=>true
 | some d=>Nat.blt d n
def actA(C:Ctx)(all:List Oper)(o:Oper)(md:Md)(t:Nat->V)(h:List O):Option (V×List O):=
 match o.guard with
 | none=>evM C o.op t h md two
 | some (j,want)=>
  match dstOf all j with
  | none=>none
  | some d=>
   match t d with
   | .bool b=>if b=want then evM C o.op t h md two else some (.undef,h)
   | .undef=>some (.undef,h)
   | _=>none
def stepA(C:Ctx)(all:List Oper)(x:Oper×Md)(s:S):Option S:=
 bif okDst C.n x.1.dst then (actA C all x.1 x.2 s.1 s.2).map fun p=>(upd x.1.dst p.1 s.1,p.2) else none
def runA(C:Ctx)(all:List Oper):List (Oper×Md)->S->Option S
 | [],s=>some s
 | x :: r,s=>(stepA C all x s).bind (runA C all r)
def zipM:List Oper->List Md->List (Oper×Md)
 | [],_=>[]
 | o :: r,mds=>(o,mds.headD .full) :: zipM r mds.tail
theorem look_cons(d:Nat)(v:V)(t:Slots):look ((d,v) :: t)=upd (some d) v (look t):=rfl
theorem upd_same{t:Nat->V}{d:Nat}{v:V}(h:t d=v):upd (some d) v t=t:=by
 funext i
 simp only [upd]
 cases hb:Nat.beq d i with
 | false=>rfl
 | true=>have:=zB hb;subst this;exact h.symm
theorem putD_run{n:Nat}{dst:Option Tmp}{v:V}{t:Slots}{K:Slots->Option ρ}{res:ρ}(h:putD n dst v t K=some res):okDst n dst=true/\∃ t',look t'=upd dst v (look t)/\K t'=some res:=by
 cases dst with
 | none=>exact⟨rfl,t,rfl,h⟩
 | some d=>
  simp only [putD] at h
  obtain⟨h1,h2⟩:=cond_some h
  exact⟨h1,_,look_cons d v t,h2⟩
theorem opsK_run:(r:List Oper)->(mds:List Md)->(t:Slots)->(h:List O)->(K:Slots->List O->Option ρ) -> {res:ρ}->opsK C all r mds t h K=some res ->
  ∃ t' h',runA C all (zipM r mds) (look t,h)=some (look t',h')/\K t' h'=some res
 | [],mds,t,h,K,res,hk=>⟨t,h,rfl,hk⟩
 | o :: r,mds,t,h,K,res,hk=>by
  have fin:∀ {v:V} {t1:Slots} {H:List O},look t1=look t->actA C all o (mds.headD .full) (look t) h=some (v,H) ->
    putD C.n o.dst v t1 (fun t=>opsK C all r mds.tail t H K)=some res->∃ t' h',runA C all (zipM (o :: r) mds) (look t,h)=some (look t',h')/\K t' h'=some res:=by
   intro v t1 H e1 e2 e3
   obtain⟨h1,t2,h2,h3⟩:=putD_run e3
   obtain⟨t3,h4,h5,h6⟩:=opsK_run r mds.tail t2 H K h3
   refine⟨t3,h4,?_,h6⟩
   simp only [zipM,runA,stepA,h1,cond_true,e2,Option.map_some,Option.bind_some]
   rw [<- e1,<- h2];exact h5
  have evd:∀ {t1:Slots},look t1=look t->evM C o.op (look t1) h (mds.headD .full) (fun v h=>putD C.n o.dst v t1 fun t=>opsK C all r mds.tail t h K)=some res ->
    ∃ v H,evM C o.op (look t) h (mds.headD .full) two=some (v,H)/\putD C.n o.dst v t1 (fun t=>opsK C all r mds.tail t H K)=some res:=by
   intro t1 e1 e2
   rw [evM_nat] at e2
   obtain⟨⟨v,H⟩,h1,h2⟩:=zU.1 e2
   rw [e1] at h1
   exact⟨v,H,h1,h2⟩
  simp only [opsK] at hk
  cases hg:o.guard with
  | none=>
   rw [hg] at hk
   simp only at hk
   obtain⟨v,H,h1,h2⟩:=evd rfl hk
   exact fin rfl (by simp only [actA,hg];exact h1) h2
  | some gw=>
   obtain⟨j,want⟩:=gw
   rw [hg] at hk
   simp only at hk
   cases hd:dstOf all j with
   | none=>rw [hd] at hk;cases hk
   | some d=>
    rw [hd] at hk
    simp only at hk
    cases ht:look t d with
    | bool b=>
     rw [ht] at hk
     simp only at hk
     have hup:look ((d,.bool b) :: t)=look t:=by rw [look_cons,upd_same ht]
     cases b with
     | true=>
      simp only [cond_true] at hk
      cases want with
      | true=>
       simp only [cond_true] at hk
       obtain⟨v,H,h1,h2⟩:=evd hup hk
       exact fin hup (by simp only [actA,hg,hd,ht,if_true];exact h1) h2
      | false=>
       simp only [cond_false] at hk
       exact fin hup (by simp [actA,hg,hd,ht]) hk
     | false=>
      simp only [cond_false] at hk
      cases want with
      | true=>
       simp only [cond_true] at hk
       exact fin hup (by simp [actA,hg,hd,ht]) hk
      | false=>
       simp only [cond_false] at hk
       obtain⟨v,H,h1,h2⟩:=evd hup hk
       exact fin hup (by simp only [actA,hg,hd,ht,if_true];exact h1) h2
    | undef=>
     rw [ht] at hk
     exact fin rfl (by simp [actA,hg,hd,ht]) hk
    | _=>rw [ht] at hk;cases hk
theorem actA_congr{o:Oper}{md:Md}{t t':Nat->V}{h:List O}(hs:∀ i∈reads all o,t i=t' i):actA C all o md t h=actA C all o md t' h:=by
 have h1:Same t t' o.op:=fun i hi=>hs i (zj _ hi)
 have h2:=evM_congr (C:=C) (h:=h) h1 md two
 unfold actA
 cases hg:o.guard with
 | none=>exact h2
 | some gw=>
  obtain⟨j,want⟩:=gw
  simp only
  cases hd:dstOf all j with
  | none=>rfl
  | some d=>
   have:=hs d (zn _ (by simp [guardTmp,hg,hd]))
   simp only [this,h2]
theorem foot_sees{md:Md}{i:Nat}(h:md.foot i):md.sees i:=by
 cases md <;> simp_all [Md.foot,Md.sees]
theorem actA_foot{o:Oper}{md:Md}{t:Nat->V}{h:List O}{v:V}{H:List O}(he:actA C all o md t h=some (v,H)):(∀ i,¬ md.foot i->getO H i=getO h i)/\(md.isFull=false->H.length=h.length):=by
 unfold actA at he
 split at he
 ·exact evM_foot he
 ·split at he
  ·cases he
  ·split at he
   ·split at he
    ·exact evM_foot he
    ·cases he;exact⟨fun _ _=>rfl,fun _=>rfl⟩
   ·cases he;exact⟨fun _ _=>rfl,fun _=>rfl⟩
   ·cases he
theorem actA_loc{o:Oper}{md:Md}{t:Nat->V}{h h':List O}{v:V}{H:List O}(ha:Agree md h h')(he:actA C all o md t h=some (v,H)) :
  ∃ H',actA C all o md t h'=some (v,H')/\∀ i,md.foot i->getO H i=getO H' i:=by
 unfold actA at he ⊢
 split at he
 ·exact evM_loc ha he
 ·split at he
  ·cases he
  ·split at he
   ·split at he
    ·rename_i hb;subst hb
     simp only [if_true]
     exact evM_loc ha he
    ·rename_i hb
     cases he;exact⟨h',by simp [hb],fun i hf=>ha.get i (foot_sees hf)⟩
   ·cases he;exact⟨h',rfl,fun i hf=>ha.get i (foot_sees hf)⟩
   ·cases he
theorem memN_iff{l:List Nat}{i:Nat}:memN l i=true↔i∈l:=by
 unfold memN
 rw [zBd]
 exact⟨fun ⟨x,h1,h2⟩=>by rw [zB h2];exact h1,fun h=>⟨i,h,Nat.beq_refl i⟩⟩
theorem upd_reads{dst:Option Tmp}{l:List Nat}(h:notIn dst l=true){v:V}{t:Nat->V}:∀ i∈l,t i=upd dst v t i:=by
 intro i hi
 cases dst with
 | none=>rfl
 | some d=>
  simp only [upd]
  cases hb:Nat.beq d i with
  | false=>rfl
  | true=>
   have:=zB hb;subst this
   simp only [notIn,memN_iff.2 hi] at h;cases h
theorem upd_comm{a b:Option Tmp}(h:unlike a b=true){u v:V}{t:Nat->V}:upd a u (upd b v t)=upd b v (upd a u t):=by
 cases a with
 | none=>rfl
 | some x=>
  cases b with
  | none=>rfl
  | some y=>
   funext i
   simp only [upd]
   cases hx:Nat.beq x i with
   | false=>rfl
   | true=>
    cases hy:Nat.beq y i with
    | false=>rfl
    | true=>
     have e1:=zB hx;have e2:=zB hy
     subst e1;subst e2
     simp [unlike,Nat.beq_refl] at h
theorem stepA_some{x:Oper×Md}{s s':S}(h:stepA C all x s=some s'):okDst C.n x.1.dst=true/\∃ v H,actA C all x.1 x.2 s.1 s.2=some (v,H)/\s'=(upd x.1.dst v s.1,H):=by
 unfold stepA at h
 obtain⟨h1,h2⟩:=cond_some h
 obtain⟨⟨v,H⟩,h3,h4⟩:=zAa.1 h2
 exact⟨h1,v,H,h3,h4.symm⟩
theorem entOf_push{k v:Sh}{x:k.den}{es:Ents k v}{e:Int×(k.den×v.den)}:entOf k v x (es ++ [e])=match entOf k v x es with | some r=>some r | none=>bif eqD k x e.2.1 then some e else none:=by
 induction es with
 | nil=>rfl
 | cons f r ih=>
  simp only [List.cons_append,entOf]
  cases eqD k x f.2.1 with
  | true=>rfl
  | false=>simp only [cond_false];exact ih
theorem mpGet_ent{k v:Sh}(d:Mp k v)(y x:k.den):mpGet k v (mpEnt k v d y) x=mpGet k v d x:=by
 unfold mpEnt
 cases mpHas k v d y with
 | true=>rfl
 | false=>
  simp only [cond_false,mpGet,entOf_push]
  cases entOf k v x d.2 with
  | some r=>rfl
  | none=>
   simp only
   cases eqD k x y <;> rfl
theorem mapAt_ent{T:List (Nat×TE)}{h:List O}{ids:List Nat}{oi:Nat}{q:Oth}{d:q.sh.den}{y:q.k.den}(eo:getO h oi=.oth false q d){ty:TypeId}{u:V}{ob:Nat}{fz:Bool}{p:Σ q:Oth,q.sh.den}
  (hat:mapAt T (onlyF (memN ids) 0 h) ty u=some (ob,fz,p)) :
  ∃ fz' d',mapAt T (onlyF (memN ids) 0 (h.set oi (.oth false q (mpEnt q.k q.v d y)))) ty u=some (ob,fz',⟨p.1,d'⟩)/\∀ x,mpGet p.1.k p.1.v d' x=mpGet p.1.k p.1.v p.2 x:=by
 have hlt:=getO_lt (h:=h) (i:=oi) (by rw [eo];simp)
 unfold mapAt at hat ⊢
 cases hq:mapTy T ty with
 | none=>rw [hq] at hat;cases hat
 | some q0=>
  rw [hq] at hat
  simp only at hat ⊢
  cases u with
  | ptr o1 off=>
   simp only at hat ⊢
   rw [onlyF_get,Nat.zero_add] at hat ⊢
   cases hmem:memN ids o1 with
   | false=>rw [hmem] at hat;simp at hat
   | true=>
    rw [hmem] at hat
    simp only [if_true] at hat ⊢
    rw [getO_set hlt]
    by_cases e:oi=o1
    ·subst e
     rw [zK rfl]
     rw [eo] at hat
     simp only at hat ⊢
     obtain⟨c1,c2⟩:=cond_some hat
     simp only [zC,zN] at c2
     obtain⟨rfl,rfl,rfl⟩:=c2
     rw [c1]
     exact⟨_,_,rfl,fun x=>mpGet_ent d y x⟩
    ·rw [zL e]
     exact⟨fz,p.2,hat,fun x=>rfl⟩
  | _=>cases hat
theorem nstAt_ent{T:List (Nat×TE)}{h:List O}{ids:List Nat}{oi:Nat}{q:Oth}{d d':q.sh.den}(eo:getO h oi=.oth false q d){ty:TypeId}{u:V}{p:Nat×Nat×(Σ q:Nst,q.sh.den)}
  (hat:nstAt T (onlyF (memN ids) 0 h) ty u=some p):nstAt T (onlyF (memN ids) 0 (h.set oi (.oth false q d'))) ty u=some p:=by
 have hlt:=getO_lt (h:=h) (i:=oi) (by rw [eo];simp)
 unfold nstAt at hat ⊢
 cases hq:nmapTy T ty with
 | none=>rw [hq] at hat;cases hat
 | some q0=>
  rw [hq] at hat
  cases u with
  | ptr o1 off=>
   simp only at hat ⊢
   rw [onlyF_get,Nat.zero_add] at hat ⊢
   cases hmem:memN ids o1 with
   | false=>rw [hmem] at hat;simp at hat
   | true=>
    rw [hmem] at hat
    simp only [if_true] at hat ⊢
    rw [getO_set hlt]
    by_cases e:oi=o1
    ·subst e;rw [eo] at hat;cases hat
    ·rw [zL e];exact hat
  | _=>cases hat
theorem entSwap_sound{x y:Oper×Md}(hsw:entSwap x.1 x.2 y.1 y.2=true){t:Nat->V}{h H1 H2:List O}{va vb:V}(e1:actA C all x.1 x.2 t h=some (va,H1))(e2:actA C all y.1 y.2 t H1=some (vb,H2)) :
  actA C all y.1 y.2 t h=some (vb,H2)/\actA C all x.1 x.2 t H2=some (va,H2):=by
 obtain⟨a,ma⟩:=x
 obtain⟨b,mb⟩:=y
 unfold entSwap at hsw
 simp only at hsw e1 e2 ⊢
 split at hsw
 case h_2=>cases hsw
 rename_i ty m k hop
 split at hsw
 ·cases hsw
 rename_i hga
 split at hsw
 case h_2=>cases hsw
 rename_i ty' m' k' hop'
 split at hsw
 ·cases hsw
 rename_i hgb
 split at hsw
 case h_2=>cases hsw
 rename_i ids
 split at hsw
 case h_2=>cases hsw
 rename_i ids'
 unfold actA at e1 e2 ⊢
 rw [hga] at e1 ⊢
 rw [hgb] at e2 ⊢
 simp only [evM,hop,hop',evR,isS,cond_true,evS] at e1 e2 ⊢
 have hH1:h=H1:=by
  split at e1
  ·rw [lookupNK_nat] at e1
   obtain⟨v,-,e⟩:=zU.1 e1
   cases e;rfl
  ·rw [lookupK_nat] at e1
   obtain⟨v,-,e⟩:=zU.1 e1
   cases e;rfl
 subst hH1
 refine⟨e2,?_⟩
 unfold mapEntryK at e2
 split at e2
 ·cases e2
 rename_i oi fz' q' d' hat'
 rcases fz' with _ | _
 case true=>cases e2
 simp only [cond_false] at e2
 split at e2
 ·cases e2
 rename_i z' hz'
 obtain⟨c2,e2⟩:=cond_some e2
 simp only [two,zC,zN,setAll] at e2
 obtain⟨-,rfl⟩:=e2
 have eo:getO h oi=.oth false q' d':=by
  unfold mapAt at hat'
  split at hat'
  ·cases hat'
  ·rename_i q0 _
   cases hu:ev t m' with
   | ptr o1 off=>
    rw [hu] at hat'
    simp only at hat'
    rw [onlyF_get,Nat.zero_add] at hat'
    cases hmem:memN ids' o1 with
    | false=>rw [hmem] at hat';simp at hat'
    | true=>
     rw [hmem] at hat'
     simp only [if_true] at hat'
     cases eo:getO h o1 with
     | oth fz1 q1 d1=>
      rw [eo] at hat'
      simp only at hat'
      obtain⟨_,c⟩:=cond_some hat'
      simp only [zC,zN] at c
      obtain⟨rfl,rfl,c⟩:=c
      cases c
      exact eo
     | _=>rw [eo] at hat';cases hat'
   | _=>rw [hu] at hat';cases hat'
 split at e1
 ·rw [lookupNK_nat] at e1 ⊢
  obtain⟨v,e1,e⟩:=zU.1 e1
  cases e
  have:lookupNK C (onlyF (memN ids) 0 (h.set oi (.oth false q' (mpEnt q'.k q'.v d' z')))) ty (ev t m) (ev t k) false some=some va:=by
   unfold lookupNK at e1 ⊢
   split at e1
   ·cases e1
   rename_i ob ver q d hat
   rw [nstAt_ent eo hat]
   exact e1
  rw [this];rfl
 unfold lookupK at e1 ⊢
 split at e1
 ·cases e1
 rename_i ob fz q d hat
 split at e1
 ·cases e1
 rename_i z hz
 simp only [cond_false,two,zC,zN] at e1
 obtain⟨rfl,-⟩:=e1
 obtain⟨fz2,d2,hat2,hget⟩:=mapAt_ent (y:=z') eo hat
 rw [hat2]
 simp only [hz,cond_false,two]
 rw [hget]
theorem swap_sound{x y:Oper×Md}(hsw:swapOk all x.1 x.2 y.1 y.2=true){s s1 s2:S}(h1:stepA C all x s=some s1)(h2:stepA C all y s1=some s2) :
  ∃ s1',stepA C all y s=some s1'/\stepA C all x s1'=some s2:=by
 simp only [swapOk,zA] at hsw
 obtain⟨⟨⟨hu,hxy⟩,hyx⟩,hm⟩:=hsw
 rw [zu] at hm
 rcases hm with hm | hm
 case inr=>
  obtain⟨o1,va,H1,e1,rfl⟩:=stepA_some h1
  obtain⟨o2,vb,H2,e2,rfl⟩:=stepA_some h2
  simp only at e2
  rw [<- actA_congr (upd_reads hxy)] at e2
  obtain⟨e3,e4⟩:=entSwap_sound hm e1 e2
  refine⟨(upd y.1.dst vb s.1,H2),?_,?_⟩
  ·simp only [stepA,o2,cond_true,e3,Option.map_some]
  ·rw [actA_congr (upd_reads hyx (v:=vb))] at e4
   simp only [stepA,o1,cond_true,e4,Option.map_some,upd_comm hu]
 obtain⟨m1,m2,m3,m4⟩:=mdOk_spec hm
 obtain⟨o1,va,H1,e1,rfl⟩:=stepA_some h1
 obtain⟨o2,vb,H2,e2,rfl⟩:=stepA_some h2
 simp only at e2
 rw [<- actA_congr (upd_reads hxy)] at e2
 obtain⟨f1,l1⟩:=actA_foot e1
 obtain⟨f2,l2⟩:=actA_foot e2
 have full_of:∀ {md:Md},md.isPure=false->md.isFull=true\/md.isFull=false:=fun {md} _=>by cases md.isFull <;> simp
 have pf:∀ {md:Md},md.isPure=true->∀ i,¬ md.foot i:=fun {md} hp i=>by cases md <;> simp_all [Md.isPure,Md.foot]
 have pnf:∀ {md:Md},md.isPure=true->md.isFull=false:=fun {md} hp=>by cases md <;> simp_all [Md.isPure,Md.isFull]
 have nfull:∀ {md md':Md},(md.isFull=true->md'.isPure=true)->md'.isPure=false->md.isFull=false:=fun {md md'} hh hp=>by
  cases hf:md.isFull with
  | false=>rfl
  | true=>rw [hh hf] at hp;cases hp
 have ag1:Agree y.2 H1 s.2:=⟨fun hp=>l1 (nfull m3 hp),fun i hs=>f1 i fun hf=>m1 i hf hs⟩
 obtain⟨H1',e3,g3⟩:=actA_loc ag1 e2
 obtain⟨f3,l3⟩:=actA_foot e3
 have ag2:Agree x.2 s.2 H1':=⟨fun hp=>(l3 (nfull m4 hp)).symm,fun i hs=>(f3 i fun hf=>m2 i hf hs).symm⟩
 obtain⟨H2',e4,g4⟩:=actA_loc ag2 e1
 obtain⟨f4,l4⟩:=actA_foot e4
 have hH:H2=H2':=by
  apply ext_getO
  ·cases hx:x.2.isFull with
   | true=>
    have hp:=m3 hx
    have h12:H2.length=H1.length:=l2 (pnf hp)
    have hs1:s.2=H1':=(ext_getO (l3 (pnf hp)) fun i=>f3 i (pf hp i)).symm
    rw [<- hs1,e1] at e4
    cases e4
    exact h12
   | false=>
    cases hy:y.2.isFull with
    | true=>
     have hp:=m4 hy
     have hs1:H1=s.2:=ext_getO (l1 hx) fun i=>f1 i (pf hp i)
     rw [hs1,e3] at e2
     cases e2
     exact (l4 hx).symm
    | false=>rw [l2 hy,l1 hx,l4 hx,l3 hy]
  ·intro i
   by_cases hx:x.2.foot i
   ·rw [f2 i fun hf=>m1 i hx (foot_sees hf),g4 i hx]
   ·by_cases hy:y.2.foot i
    ·rw [g3 i hy,f4 i hx]
    ·rw [f2 i hy,f1 i hx,f4 i hx,f3 i hy]
 subst hH
 refine⟨(upd y.1.dst vb s.1,H1'),?_,?_⟩
 ·simp only [stepA,o2,cond_true,e3,Option.map_some]
 ·rw [actA_congr (upd_reads hyx (v:=vb))] at e4
  simp only [stepA,o1,cond_true,e4,Option.map_some,upd_comm hu]
theorem front_sound:(pre:List (Oper×Md)) -> {x:Oper×Md} -> {post:List (Oper×Md)}->(∀ p∈pre,swapOk all p.1 p.2 x.1 x.2=true) -> {s s':S} ->
  runA C all (pre++x :: post) s=some s'->∃ s1,stepA C all x s=some s1/\runA C all (pre++post) s1=some s'
 | [],x,post,hp,s,s',h=>by
  obtain⟨s1,h1,h2⟩:=zU.1 h
  exact⟨s1,h1,h2⟩
 | p :: pre,x,post,hp,s,s',h=>by
  obtain⟨s1,h1,h2⟩:=zU.1 h
  obtain⟨s2,h3,h4⟩:=front_sound pre (fun q hq=>hp q (by simp [hq])) h2
  obtain⟨s1',h5,h6⟩:=swap_sound (hp p (by simp)) h1 h3
  refine⟨s1',h5,?_⟩
  simp only [List.cons_append,runA,h6,Option.bind_some]
  exact h4
end
end Go.Abs
