import Derived.Test.YtgnnhemoocfclaaGreatDoorAbsOpsS
namespace Go.Abs
section
variable {ρ : Type} {C : Ctx} {h : List O} {t t' : Nat -> V}
theorem qi{α β:Type}(b:Bool)(x y:Option α)(K:α->Option β):(bif b then x else y).bind K=bif b then x.bind K else y.bind K:=by cases b <;> rfl
theorem qAt(op:BinOp)(k:IntKind)(x y:Int)(K:V->Option ρ):qtF op k x y K=(qtF op k x y some).bind K:=by
 cases op <;> simp only [qtF,qi,Option.bind_some,Option.bind_none]
theorem qyj(op:BinOp)(x y:Bool)(K:V->Option ρ):qvb op x y K=(qvb op x y some).bind K:=by
 cases op <;> rfl
theorem qAs(op:BinOp)(ty:TypeId)(x y:V)(K:V->Option ρ):qjE C op ty x y K=(qjE C op ty x y some).bind K:=by
 cases x <;> cases y <;> simp only [qjE,qi,Option.bind_none]
 ·rw [qAt];split <;> simp [Option.bind_none]
 ·rw [qyj]
 ·unfold nilOp
  split
  ·rfl
  ·cases op <;> rfl
 ·unfold qzp
  split
  ·rfl
  ·rw [qi]
   congr 1
   split
   ·rfl
   ·split
    ·rfl
    ·split
     ·rfl
     ·split <;> rfl
theorem qAC(op:UnOp)(x:V)(K:V->Option ρ):unOpK op x K=(unOpK op x some).bind K:=by
 cases x <;> cases op <;> rfl
theorem qBs(ty:TypeId)(a:V)(K:V->Option ρ):loadK C h ty a K=(loadK C h ty a some).bind K:=by
 unfold loadK
 split
 ·rfl
 ·split
  ·rfl
  ·rw [qi];rfl
theorem qpp(size:Nat)(agg:Bool)(vs:List V)(i:Int)(K:V->Option ρ):(n j:Nat)->qiE size agg vs i K n j=(qiE size agg vs i some n j).bind K
 | 0,j=>rfl
 | n+1,j=>by simp only [qiE,qi,Option.bind_some];rw [qpp _ _ _ _ _ n]
theorem qow{α β:Type}(x:Option Operand)(d:Int)(K:Int->Option α)(L:α->Option β):(qhL t x d K).bind L=qhL t x d (fun y=>(K y).bind L):=by
 unfold qhL
 split
 ·rfl
 ·split <;> rfl
theorem qAp(ty:TypeId)(ps:List (Nat×Operand))(K:V->Option ρ):qrQ C t ty ps K=(qrQ C t ty ps some).bind K:=by
 unfold qrQ
 repeat' (first | rfl | split)
theorem qsF(ty:TypeId)(x:V)(f:Nat)(K:V->Option ρ):qhx C h ty x f K=(qhx C h ty x f some).bind K:=by
 unfold qhx
 split
 ·rfl
 ·split
  ·split
   ·rfl
   ·rw [qi]
    cases x <;> simp only [qi,Option.bind_some,Option.bind_none]
    split <;> rfl
  ·rfl
theorem qAg(ty:TypeId)(x:V)(f:Nat)(K:V->Option ρ):qtp C ty x f K=(qtp C ty x f some).bind K:=by
 unfold qtp
 split
 ·rfl
 ·split
  ·split
   ·rfl
   ·split
    ·rfl
    ·cases x <;> simp only [qi,Option.bind_some,Option.bind_none]
  ·rfl
theorem qrm(ty:TypeId)(x i:V)(K:V->Option ρ):qgh C h ty x i K=(qgh C h ty x i some).bind K:=by
 unfold qgh
 split
 ·rfl
 ·cases i <;> simp only [Option.bind_none]
  cases x <;> simp only [qi,Option.bind_some,Option.bind_none]
  all_goals split <;> simp only [qi,Option.bind_some,Option.bind_none]
theorem qsE(ty:TypeId)(x i:V)(K:V->Option ρ):qhw C h ty x i K=(qhw C h ty x i some).bind K:=by
 unfold qhw
 split
 ·cases i <;> simp only [Option.bind_none]
  cases x <;> simp only [qi,Option.bind_some,Option.bind_none]
 ·exact qrm ty x i K
theorem qAc(ty:TypeId)(x i:V)(K:V->Option ρ):qtl C ty x i K=(qtl C ty x i some).bind K:=by
 unfold qtl
 split
 ·rfl
 ·split
  ·split
   ·rfl
   ·cases i <;> simp only [Option.bind_none]
    cases x <;> simp only [qi,Option.bind_none]
    rw [qpp]
  ·rfl
theorem quH(ty:TypeId)(s:ByteArray)(i:V)(K:V->Option ρ):qli C ty s i K=(qli C ty s i some).bind K:=rfl
theorem qxv(ty:TypeId)(x:V)(lo hi:Option Operand)(K:V->Option ρ):qot C ty x lo hi K=(qot C ty x lo hi some).bind K:=by
 unfold qot
 split
 ·rfl
 ·split
  ·rfl
  ·split
   ·rfl
   ·split
    ·rw [qi];rfl
    ·rfl
theorem qxu(ty:TypeId)(s:Sh)(y:s.den)(lo hi:Option Operand)(K:V->Option ρ):qmK C t ty s y lo hi K=(qmK C t ty s y lo hi some).bind K:=by
 unfold qmK
 split
 ·rfl
 split
 ·rfl
 split
 ·rfl
 rw [qi]
 congr 1
 split
 ·rfl
 ·simp only [qow,qi,Option.bind_none,Option.bind_some]
theorem qzN(ty:TypeId)(x:V)(lo hi:Option Operand)(K:V->Option ρ):qqz C h t ty x lo hi K=(qqz C h t ty x lo hi some).bind K:=by
 unfold qqz
 split
 ·split
  ·exact qxu _ _ _ _ _ _
  ·exact qxv _ _ _ _ _
 ·cases x <;> (try simp only [qi,Option.bind_none,qow,Option.bind_some])
  cases hi with
  | some _=>rfl
  | none=>
   simp only
   split
   ·simp only [qi,Option.bind_none,qow,Option.bind_some]
   ·rfl
theorem qDm(ty:TypeId)(x:V)(K:V->Option ρ):lenK C h ty x K=(lenK C h ty x some).bind K:=by
 unfold lenK
 repeat' (first | rfl | split)
theorem qqU(m:Bool)(vs:List V)(K:V->Option ρ):qmQ m vs K=(qmQ m vs some).bind K:=by
 unfold qmQ
 repeat' (first | rfl | split)
theorem qAn(f:V)(args:List V)(K:V->Option ρ):qtD C h f args K=(qtD C h f args some).bind K:=by
 unfold qtD
 split
 ·split
  ·rfl
  ·split
   ·rename_i p _ _ _
    simp only [p.spOk]
    cases p.r <;> rfl
   ·rfl
 ·rfl
theorem qwS(s d:TypeId)(x:V)(K:V->Option ρ):qlR C s d x K=(qlR C s d x some).bind K:=by
 unfold qlR
 repeat' (first | rfl | split)
theorem qAW(c a b:V)(K:V->Option ρ):pickK c a b K=(pickK c a b some).bind K:=by
 cases c <;> simp only [pickK,qi,Option.bind_some,Option.bind_none]
theorem quq(x:V)(K:V->Option ρ):qeH h x K=(qeH h x some).bind K:=by
 cases x <;> simp only [qeH,qi,Option.bind_some,Option.bind_none]
theorem qwD(x:V)(i:Nat)(K:V->Option ρ):qkd x i K=(qkd x i some).bind K:=by
 unfold qkd
 repeat' (first | rfl | split)
theorem qre(ty:TypeId)(x i:V)(ok:Bool)(K:V->Option ρ):qmS C h ty x i ok K=(qmS C h ty x i ok some).bind K:=by
 unfold qmS
 split
 ·rfl
 ·split
  ·rfl
  ·rw [qi];rfl
theorem qlh(ty:TypeId)(x i:V)(ok:Bool)(K:V->Option ρ):qiD C h ty x i ok K=(qiD C h ty x i ok some).bind K:=by
 unfold qiD
 split
 ·rfl
 ·split
  ·rfl
  ·split
   ·rfl
   ·simp only [qi,Option.bind_none,Option.bind_some]
theorem qxY(x:V)(K:V->Option ρ):qoI h x K=(qoI h x some).bind K:=by
 unfold qoI
 split
 ·rfl
 ·split
  ·rw [qi];rfl
  ·rfl
theorem qBz(x:V)(K:V->Option ρ):lenNK h x K=(lenNK h x some).bind K:=rfl
theorem qAi(x:V)(K:V->Option ρ):qtq h x K=(qtq h x some).bind K:=by
 unfold qtq
 split
 ·exact qxY _ _
 ·split
  ·rw [qi];rfl
  ·rfl
theorem qxQ(ty:TypeId)(x:V)(K:V->Option ρ):qoC C h ty x K=(qoC C h ty x some).bind K:=by
 unfold qoC
 split
 ·split
  ·rfl
  ·exact qBz _ _
 ·rfl
theorem qCq(c:Call)(K:V->Option ρ):callR C t h c K=(callR C t h c some).bind K:=by
 unfold callR
 split
 ·split
  ·split
   ·split
    ·exact qxQ _ _ _
    ·exact qDm _ _ _
   ·rfl
  ·exact qqU _ _ _
  ·exact qqU _ _ _
  ·rfl
 ·split
  ·rfl
  ·exact qAn _ _ _
theorem qhs(op:BinOp)(b:Bool)(K:V->Option ρ):qjn op b K=(qjn op b some).bind K:=by
 unfold qjn
 split <;> rfl
theorem qxB(op:BinOp)(ty:TypeId)(x:V)(K:V->Option ρ):qov C op ty x K=(qov C op ty x some).bind K:=by
 unfold qov
 split
 ·rfl
 ·split
  ·split
   ·exact qhs _ _ _
   ·rw [qi,qhs];rfl
   ·exact qhs _ _ _
   ·rfl
  ·rfl
theorem qxJ(op:BinOp)(ty:TypeId)(x:V)(K:V->Option ρ):qoA C h op ty x K=(qoA C h op ty x some).bind K:=by
 unfold qoA
 split
 ·rfl
 ·split
  ·split
   ·exact qhs _ _ _
   ·split
    ·rw [qi,qhs];rfl
    ·rfl
   ·split
    ·rw [qi,qhs];rfl
    ·rfl
   ·rfl
  ·rfl
theorem qxT(op:BinOp)(ty:TypeId)(x:V)(K:V->Option ρ):qrn C op ty x K=(qrn C op ty x some).bind K:=rfl
theorem qzT(ty:TypeId)(x:V)(K:V->Option ρ):qwd C ty x K=(qwd C ty x some).bind K:=rfl
theorem qgY(o:Op)(K:V->Option ρ):evR C o t h K=(evR C o t h some).bind K:=by
 unfold evR
 split
 ·rfl
 ·rfl
 ·exact qAW _ _ _ _
 ·split
  ·exact qxT _ _ _ _
  ·exact qxB _ _ _ _
  ·exact qxJ _ _ _ _
  ·exact qAs _ _ _ _ _
 ·exact qzT _ _ _
 ·exact qAC _ _ _
 ·exact qwS _ _ _ _
 ·exact quq _ _
 ·exact qBs _ _ _
 ·exact qsF _ _ _ _
 ·exact qAg _ _ _ _
 ·exact qsE _ _ _ _
 ·split
  ·exact quH _ _ _ _
  ·exact qAc _ _ _ _
 ·exact qwD _ _ _
 ·exact qAp _ _ _
 ·split
  ·simp only [qi,Option.bind_some,Option.bind_none]
  ·rfl
 ·split
  ·exact qzN _ _ _ _ _
  ·rfl
 ·split
  ·exact qlh _ _ _ _ _
  ·exact qre _ _ _ _ _
 ·exact qAi _ _
 ·exact qCq _ _
 ·rfl
abbrev trip(v:V)(ss:List (Nat×O))(mk:Option O):Option (V×List (Nat×O)×Option O):=some (v,ss,mk)
theorem qrP(nid:Nat)(ty:TypeId)(n:Nat)(ps:List (Nat×Operand))(K:V->List (Nat×O)->Option O->Option ρ):qfh C t h nid ty n ps K=(qfh C t h nid ty n ps trip).bind fun p=>K p.1 p.2.1 p.2.2:=by
 unfold qfh
 split
 ·rfl
 ·split
  ·rfl
  ·rw [qi]
   split
   ·rfl
   ·split <;> rfl
theorem qrc(nid:Nat)(ty:TypeId)(l c:V)(K:V->List (Nat×O)->Option O->Option ρ):qgb C nid ty l c K=(qgb C nid ty l c trip).bind fun p=>K p.1 p.2.1 p.2.2:=by
 unfold qgb
 split
 ·rfl
 ·split
  ·rfl
  ·cases l <;> simp only [Option.bind_none]
   cases c <;> simp only [qi,Option.bind_some,Option.bind_none]
theorem qsA(nid:Nat)(ty:TypeId)(l c:V)(t:Kt)(K:V->List (Nat×O)->Option O->Option ρ):qht C nid ty l c t K=(qht C nid ty l c t trip).bind fun p=>K p.1 p.2.1 p.2.2:=by
 unfold qht
 split
 ·rfl
 ·split
  ·cases l <;> simp only [Option.bind_none]
   cases c <;> simp only [qi,Option.bind_some,Option.bind_none]
  ·rfl
theorem qsB(nid:Nat)(ty:TypeId)(l c:V)(K:V->List (Nat×O)->Option O->Option ρ):qhu C nid ty l c K=(qhu C nid ty l c trip).bind fun p=>K p.1 p.2.1 p.2.2:=by
 unfold qhu
 split
 ·exact qsA ..
 ·exact qrc ..
theorem qzK(ty:TypeId)(o ver i off:Nat)(v:V)(K:V->List (Nat×O)->Option O->Option ρ):qsV C h ty o ver i off v K=(qsV C h ty o ver i off v trip).bind fun p=>K p.1 p.2.1 p.2.2:=by
 unfold qsV
 split
 ·rfl
 ·split
  ·rw [qi]
   split
   ·rw [qi]
    split <;> rfl
   ·split
    ·rfl
    ·split
     ·rfl
     ·rw [qi];rfl
  ·rfl
theorem qqv(ty:TypeId)(a v:V)(K:V->List (Nat×O)->Option O->Option ρ):qmE C h ty a v K=(qmE C h ty a v trip).bind fun p=>K p.1 p.2.1 p.2.2:=by
 unfold qmE
 split
 ·rfl
 ·rw [qi]
  cases a <;> simp only [Option.bind_none]
  ·split <;> simp only [qi,Option.bind_some,Option.bind_none]
  ·split
   ·rw [qi]
    split <;> rfl
   ·rfl
theorem qzL(ty:TypeId)(a v:V)(K:V->List (Nat×O)->Option O->Option ρ):qsW C h ty a v K=(qsW C h ty a v trip).bind fun p=>K p.1 p.2.1 p.2.2:=by
 unfold qsW
 split
 ·split
  ·exact qzK ..
  ·exact qqv ..
 ·exact qqv ..
theorem qrU(nid:Nat)(ty:TypeId)(x y:V)(K:V->List (Nat×O)->Option O->Option ρ):qnc C h nid ty x y K=(qnc C h nid ty x y trip).bind fun p=>K p.1 p.2.1 p.2.2:=by
 unfold qnc
 split
 ·rfl
 ·split
  ·rfl
  ·split
   ·rfl
   ·rw [qi]
    cases x <;> simp only [Option.bind_none,qi,Option.bind_some]
    split
    ·rw [qi]
     split
     ·rfl
     ·rw [qi];rfl
    ·rfl
theorem qpA(nid:Nat)(ty:TypeId)(x y:V)(K:V->List (Nat×O)->Option O->Option ρ):qki C h nid ty x y K=(qki C h nid ty x y trip).bind fun p=>K p.1 p.2.1 p.2.2:=by
 unfold qki
 split
 ·rfl
 ·split
  ·rfl
  ·rw [qi]
   split
   ·rfl
   ·cases x <;> simp only [Option.bind_none,qi,Option.bind_some]
    split
    ·rw [qi]
     split
     ·rfl
     ·rw [qi];rfl
    ·rfl
theorem qyl(nid:Nat)(ty:TypeId)(x y:V)(K:V->List (Nat×O)->Option O->Option ρ):qoT C h nid ty x y K=(qoT C h nid ty x y trip).bind fun p=>K p.1 p.2.1 p.2.2:=by
 unfold qoT
 split
 ·exact qrU ..
 ·split
  ·exact qrU ..
  ·exact qpA ..
 ·exact qpA ..
theorem qCi(ty:TypeId)(x y:V)(K:V->List (Nat×O)->Option O->Option ρ):copyK C h ty x y K=(copyK C h ty x y trip).bind fun p=>K p.1 p.2.1 p.2.2:=by
 unfold copyK
 split
 ·rfl
 ·split
  ·rfl
  ·split
   ·rfl
   ·cases x <;> simp only [Option.bind_none]
    ·split
     ·rw [qi]
      split <;> rfl
     ·rfl
    ·split
     ·rw [qi]
      split <;> rfl
     ·rfl
theorem qwh(nid:Nat)(ty:TypeId)(rs:Option V)(K:V->List (Nat×O)->Option O->Option ρ):qlJ C nid ty rs K=(qlJ C nid ty rs trip).bind fun p=>K p.1 p.2.1 p.2.2:=by
 unfold qlJ
 split
 ·split
  ·rfl
  ·split <;> rfl
 ·split <;> rfl
theorem qqY(ty:TypeId)(m k x:V)(K:V->List (Nat×O)->Option O->Option ρ):qhO C h ty m k x K=(qhO C h ty m k x trip).bind fun p=>K p.1 p.2.1 p.2.2:=rfl
theorem qxA(nid:Nat)(ty:TypeId)(x:V)(K:V->List (Nat×O)->Option O->Option ρ):qqL C h nid ty x K=(qqL C h nid ty x trip).bind fun p=>K p.1 p.2.1 p.2.2:=rfl
theorem qqZ(ty:TypeId)(m k x:V)(K:V->List (Nat×O)->Option O->Option ρ):qhP C h ty m k x K=(qhP C h ty m k x trip).bind fun p=>K p.1 p.2.1 p.2.2:=rfl
theorem qmh(ty:TypeId)(m k x:V)(K:V->List (Nat×O)->Option O->Option ρ):qga C h ty m k x K=(qga C h ty m k x trip).bind fun p=>K p.1 p.2.1 p.2.2:=by
 unfold qga
 split
 ·exact qqZ _ _ _ _ _
 ·rw [qi]
  congr 1
  split
  ·rfl
  ·split <;> rfl
theorem quz(ty:TypeId)(m k:V)(K:V->List (Nat×O)->Option O->Option ρ):qhQ C h ty m k K=(qhQ C h ty m k trip).bind fun p=>K p.1 p.2.1 p.2.2:=by
 unfold qhQ
 split
 ·rfl
 ·rw [qi]
  congr 1
  split <;> rfl
theorem qrE(ty:TypeId)(m s x:V)(K:V->List (Nat×O)->Option O->Option ρ):qgj C h ty m s x K=(qgj C h ty m s x trip).bind fun p=>K p.1 p.2.1 p.2.2:=by
 unfold qgj
 split
 ·rfl
 ·rw [qi]
  congr 1
  cases s <;> simp only [Option.bind_none]
  split
  ·rfl
  ·rw [qi];rfl
theorem qzQ(nid:Nat)(ty:TypeId)(x:V)(K:V->List (Nat×O)->Option O->Option ρ):qtd C h nid ty x K=(qtd C h nid ty x trip).bind fun p=>K p.1 p.2.1 p.2.2:=by
 unfold qtd
 split <;> rfl
theorem qyf(ty:TypeId)(m k:V)(K:V->List (Nat×O)->Option O->Option ρ):qoP C h ty m k K=(qoP C h ty m k trip).bind fun p=>K p.1 p.2.1 p.2.2:=by
 unfold qoP
 split
 ·rfl
 ·rw [qi]
  congr 1
  split <;> rfl
theorem qAl(ty:TypeId)(m:V)(K:V->List (Nat×O)->Option O->Option ρ):qtz C h ty m K=(qtz C h ty m trip).bind fun p=>K p.1 p.2.1 p.2.2:=by
 unfold qtz
 split
 ·rfl
 ·rw [qi];rfl
theorem quZ(ty:TypeId)(m:V)(K:V->List (Nat×O)->Option O->Option ρ):qjD C h ty m K=(qjD C h ty m trip).bind fun p=>K p.1 p.2.1 p.2.2:=by
 unfold qjD
 repeat' (first | rfl | split | rw [qi];congr 1)
theorem qgX(o:Op)(nid:Nat)(K:V->List (Nat×O)->Option O->Option ρ):evS C o t h nid K=(evS C o t h nid trip).bind fun p=>K p.1 p.2.1 p.2.2:=by
 unfold evS
 split
 ·split <;> rfl
 ·rw [qi];rfl
 ·exact qrP _ _ _ _ _
 ·exact qsB _ _ _ _ _
 ·exact qzL _ _ _ _
 ·exact qwh _ _ _ _
 ·split
  ·exact qqY _ _ _ _ _
  ·exact qmh _ _ _ _ _
 ·exact qmh _ _ _ _ _
 ·exact quz _ _ _ _
 ·exact qrE _ _ _ _ _
 ·split
  ·exact qxA _ _ _ _
  ·exact qzQ _ _ _ _
 ·rw [qi]
  congr 1
  ·split
   ·exact qyf _ _ _ _
   ·rfl
  rw [qi]
  congr 1
  ·split
   ·split
    ·exact qAl _ _ _
    ·exact quZ _ _ _
   ·rfl
  split
  ·rw [qi,qi,qyl,qCi];rfl
  ·rfl
 ·rfl
abbrev two(v:V)(h:List O):Option (V×List O):=some (v,h)
theorem qAo(f o ver:Nat)(q:Nst)(d:q.sh.den)(i:Nat)(args:List V)(K:V->List O->Option ρ):qwY C h f o ver q d i args K=(qwY C h f o ver q d i args two).bind fun p=>K p.1 p.2:=rfl
theorem qAm(f:V)(args:List V)(K:V->List O->Option ρ):qwV C h f args K=(qwV C h f args two).bind fun p=>K p.1 p.2:=by
 unfold qwV
 split
 ·split
  ·rename_i p _
   simp only [p.spOk]
   cases p.r <;> rfl
  ·split
   ·exact qAo _ _ _ _ _ _ _ _
   ·rfl
 ·rfl
theorem qAr(o:Op)(K:V->List O->Option ρ)(K':Option ρ)(K2:Option (V×List O))(hk:K'=K2.bind fun p=>K p.1 p.2):qtE C o t h K K'=(qtE C o t h two K2).bind fun p=>K p.1 p.2:=hk
theorem qEP(o:Op)(K:V->List O->Option ρ):evW C o t h K=(evW C o t h two).bind fun p=>K p.1 p.2:=by
 unfold evW
 rw [qi]
 congr 1
 ·rw [qgX o h.length (fun v ss mk=>K v (qac ss h++mk.toList)),qgX o h.length (fun v ss mk=>two v (qac ss h++mk.toList))]
  cases evS C o t h h.length trip <;> rfl
 ·split
  ·exact qAm _ _ _
  split
  ·rfl
  split
  ·rw [qi];rfl
  ·refine qAr _ _ _ _ ?_
   rw [qgY o (fun v=>K v h),qgY o (fun v=>two v h)]
   cases evR C o t h some <;> rfl
theorem qlq(f:V)(args:List V)(K:O->Option ρ):callN C f args K=(callN C f args some).bind K:=by
 unfold callN
 split
 ·rw [qi]
  congr 1
  split
  ·rfl
  ·split
   ·rfl
   ·rename_i p _ _ _ _
    simp only [p.spOk]
    cases p.r with
    | none=>rfl
    | some a=>
     simp only [Option.bind_some]
     split <;> rfl
 ·rfl
theorem qCp(ids:List Nat)(f:V)(args:List V)(K:V->List O->Option ρ):callS C h ids f args K=(callS C h ids f args two).bind fun p=>K p.1 p.2:=by
 unfold callS
 split
 ·rw [qi]
  congr 1
  split
  ·rfl
  ·split
   ·rfl
   ·rename_i p _ _ _ _
    simp only [p.spOk]
    cases p.r with
    | none=>rfl
    | some a=>simp only [Option.bind_some,qi];rfl
 ·rfl
theorem qER(o:Op)(md:Md)(K:V->List O->Option ρ):evM C o t h md K=(evM C o t h md two).bind fun p=>K p.1 p.2:=by
 cases md with
 | pure=>simp only [evM];rw [qgY o (fun v=>K v h),qgY o (fun v=>two v h)];cases evR C o t [] some <;> rfl
 | rd ids=>simp only [evM];rw [qgY o (fun v=>K v h),qgY o (fun v=>two v h)];cases evR C o t (onlyF (memN ids) 0 h) some <;> rfl
 | wr ids=>
  simp only [evM,qi,Option.bind_none]
  congr 1
  ·refine (qgX o 0 _).trans (Eq.trans ?_ (congrArg (fun z=>Option.bind z fun p:V×List O=>K p.1 p.2) (qgX o 0 _).symm))
   cases evS C o t (onlyF (memN ids) 0 h) 0 trip with
   | none=>rfl
   | some p=>
    obtain⟨v,ss,mk⟩:=p
    cases mk <;> simp only [Option.bind_some,qi,Option.bind_none]
  ·split
   ·exact qCp _ _ _ _
   ·split
    ·split <;> simp only [qi,Option.bind_none] <;> rfl
    ·split <;> simp only [qi,Option.bind_none] <;> rfl
 | new id=>
  simp only [evM,qi,Option.bind_none]
  congr 1
  ·refine (qgX o id _).trans (Eq.trans ?_ (congrArg (fun z=>Option.bind z fun p:V×List O=>K p.1 p.2) (qgX o id _).symm))
   cases evS C o t [] id trip with
   | none=>rfl
   | some p=>
    obtain⟨v,ss,mk⟩:=p
    cases ss <;> cases mk <;> simp only [Option.bind_some,Option.bind_none]
    split <;> simp only [qi,Option.bind_some,Option.bind_none]
  split
  ·refine (qlq _ _ _).trans (Eq.trans ?_ (congrArg (fun z=>Option.bind z fun p:V×List O=>K p.1 p.2) (qlq _ _ _).symm))
   cases callN C _ _ some with
   | none=>rfl
   | some x=>
    simp only [Option.bind_some]
    split <;> simp only [qi,Option.bind_some,Option.bind_none]
  ·rfl
 | full=>exact qEP o K
end
end Go.Abs
namespace Go.Abs
section
variable {ρ : Type} {C : Ctx} {h h' : List O} {t t' : Nat -> V}
def Same(t t':Nat->V)(o:Op):Prop:=∀ i∈qEd o,t i=t' i
theorem qDA{x:Operand}(hx:∀ i,x=.tmp i->t i=t' i):ev t x=ev t' x:=by
 cases x with
 | tmp i=>exact hx i rfl
 | _=>rfl
theorem Same.ev{o:Op}(hs:Same t t' o){x:Operand}(hx:x∈o.operands):ev t x=ev t' x:=
 qDA fun i hi=>hs i (by
  subst hi
  exact List.mem_filterMap.2 ⟨.tmp i,by simpa using hx,rfl⟩)
theorem qmU{place:Nat->Option (Nat×Nat)}:(ps:List (Nat×Operand))->(vs:List V)->(∀ p∈ps,ev t p.2=ev t' p.2)->fillV place t ps vs=fillV place t' ps vs
 | [],vs,_=>rfl
 | (i,x) :: r,vs,hp=>by
  have hx:=hp (i,x) (by simp)
  simp only at hx
  simp only [fillV,hx]
  split
  ·rfl
  ·rw [qmU r _ fun p hm=>hp p (by simp [hm])]
theorem qlI{xs:List Operand}(hx:∀ x∈xs,ev t x=ev t' x):xs.map (ev t)=xs.map (ev t'):=List.map_congr_left hx
theorem qyi{c:Call}(hx:∀ x∈c.operands,ev t x=ev t' x)(K:V->Option ρ):callR C t h c K=callR C t' h c K:=by
 have hargs:∀ x∈c.args,ev t x=ev t' x:=fun x hm=>hx x (by simp [Call.operands,hm])
 have hm:=qlI (t:=t) (t':=t') (xs:=c.args.toList) (fun x hm=>hargs x (by simpa using hm))
 unfold callR
 split
 ·split
  ·split
   ·rename_i x ty e _
    rw [hargs x (zAn e)]
   ·rfl
  ·rw [hm]
  ·rw [hm]
  ·rfl
 ·have:callT C.T t (.call c)=callT C.T t' (.call c):=by
   unfold callT
   simp only
   split
   ·rename_i f hf
    rw [hm,hx f (by simp [Call.operands,hf])]
   ·rename_i r nm hf
    rw [hm,hx r (by simp [Call.operands,hf])]
   ·rfl
  rw [this]
theorem qrD{o:Op}(hs:Same t t' o)(K:V->Option ρ):evR C o t h K=evR C o t' h K:=by
 have hev:∀ x∈o.operands,ev t x=ev t' x:=fun x hx=>hs.ev hx
 cases o <;> simp only [Op.operands] at hev <;> simp only [evR]
 case build ty ps=>
  unfold qrQ
  have:=fun place vs=>qmU (place:=place) ps.toList vs (fun p hp=>hev p.2 (by simp;exact⟨p.1,by simpa using hp⟩))
  simp only [this]
 case makeFunc fn first caps=>
  rw [qlI (xs:=caps.toList) fun x hx=>hev x (by simp;exact .inr (by simpa using hx)),qlI (xs:=first.toList) fun x hx=>hev x (by simp;exact .inl (by simpa using hx))]
 case slice ty x lo hi mx=>
  have h1:=hev x (by simp)
  have h2:∀ d (K:Int->Option ρ),qhL t lo d K=qhL t' lo d K:=fun d K=>by
   cases lo with
   | none=>rfl
   | some y=>simp only [qhL,hev y (by simp)]
  have h3:∀ d (K:Int->Option ρ),qhL t hi d K=qhL t' hi d K:=fun d K=>by
   cases hi with
   | none=>rfl
   | some y=>simp only [qhL,hev y (by simp)]
  cases mx <;> simp only [qqz,qmK,h1,h2,h3]
 case call c=>exact qyi (by simpa using hev) K
 all_goals (first | rfl | (simp_all;done))
theorem qrB{o:Op}(hs:Same t t' o)(nid:Nat)(K:V->List (Nat×O)->Option O->Option ρ):evS C o t h nid K=evS C o t' h nid K:=by
 have hev:∀ x∈o.operands,ev t x=ev t' x:=fun x hx=>hs.ev hx
 cases o <;> simp only [Op.operands] at hev <;> simp only [evS]
 case buildSlice ty n ps=>
  unfold qfh
  have:=fun place vs=>qmU (place:=place) ps.toList vs (fun p hp=>hev p.2 (by simp;exact⟨p.1,by simpa using hp⟩))
  simp only [this]
 case call c=>
  have hargs:∀ x∈c.args,ev t x=ev t' x:=fun x hm=>hev x (by simp [Call.operands,hm])
  congr 1
  ·split
   ·rename_i x y ty e1 e2 _
    rw [hargs x (zAn e1),hargs y (zAn e2)]
   ·rfl
  congr 1
  ·split
   ·rename_i x ty e1 _
    rw [hargs x (zAn e1)]
   ·rfl
  split
  ·rename_i x y ty ty' e1 e2 _ _
   rw [hargs x (zAn e1),hargs y (zAn e2)]
  ·rfl
 case makeMap ty rs=>
  cases rs with
  | none=>rfl
  | some x=>simp only [Option.map_some,hev x (by simp)]
 all_goals (first | rfl | (simp_all;done))
theorem qna{T:List (Nat×TE)}{o:Op}(hs:Same t t' o):callT T t o=callT T t' o:=by
 unfold callT
 split
 ·rename_i c
  have hc:∀ x∈c.operands,ev t x=ev t' x:=fun x hx=>hs.ev (by simpa [Op.operands] using hx)
  have hm:=qlI (t:=t) (t':=t') (xs:=c.args.toList) (fun x hm=>hc x (by simp [Call.operands];exact .inr (by simpa using hm)))
  split
  ·rename_i f hf
   rw [hm,hc f (by simp [Call.operands,hf])]
  ·rename_i r nm hf
   rw [hm,hc r (by simp [Call.operands,hf])]
  ·rfl
 ·rfl
theorem qxc{o:Op}(hs:Same t t' o)(K:V->List O->Option ρ)(K':Option ρ):qtE C o t h K K'=qtE C o t' h K K':=rfl
theorem qqu{o:Op}(hs:Same t t' o)(nid:Nat):takeO C o t h nid=takeO C o t' h nid:=by
 cases o with
 | lookup ty x i ok=>
  have e1:=hs.ev (x:=x) (by simp [Op.operands])
  have e2:=hs.ev (x:=i) (by simp [Op.operands])
  cases ok <;> simp only [takeO,e1,e2]
 | load ty x=>
  have e1:=hs.ev (x:=x) (by simp [Op.operands])
  simp only [takeO,e1]
 | _=>rfl
theorem qrK{o:Op}(hs:Same t t' o):dropO C o t h=dropO C o t' h:=by
 cases o with
 | slice ty x lo hi mx=>
  have e1:=hs.ev (x:=x) (by simp [Op.operands])
  cases lo with
  | none=>rfl
  | some lo=>
   have e2:=hs.ev (x:=lo) (by simp [Op.operands])
   cases hi <;> cases mx <;> first | rfl | simp only [dropO,e1,e2]
 | _=>rfl
theorem qBW{o:Op}(hs:Same t t' o)(md:Md)(K:V->List O->Option ρ):evM C o t h md K=evM C o t' h md K:=by
 cases md <;> simp only [evM]
 ·exact qrD hs _
 ·exact qrD hs _
 ·rw [qrB hs,qna hs,qqu hs,qrK hs]
 ·rw [qrB hs,qna hs]
 ·unfold evW
  rw [qrB hs,qrD hs,qna hs,qxc hs,qqu hs,qrK hs]
def Md.sees:Md->Nat->Prop
 | .pure,_=>False
 | .rd ids,i=>memN ids i=true
 | .wr ids,i=>memN ids i=true
 | .new id,i=>i=id
 | .full,_=>True
def Md.foot:Md->Nat->Prop
 | .pure,_=>False
 | .rd _,_=>False
 | .wr ids,i=>memN ids i=true
 | .new id,i=>i=id
 | .full,_=>True
def Md.isFull:Md->Bool
 | .full=>true
 | _=>false
def Md.isPure:Md->Bool
 | .pure=>true
 | _=>false
structure Agree (md:Md) (h h':List O):Prop where
 len:md.isPure=false->h.length=h'.length
 get:∀ i,md.sees i->getO h i=getO h' i
theorem qnR{h h':List O}(hl:h.length=h'.length)(hg:∀ i,getO h i=getO h' i):h=h':=by
 apply List.ext_getElem hl
 intro i h1 h2
 have:=hg i
 simpa [getO,List.getD,h1,h2] using this
theorem qlc(p:Nat->Bool):(i:Nat)->(h:List O)->(onlyF p i h).length=h.length
 | _,[]=>rfl
 | i,x :: h=>by simp [onlyF,qlc p (i+1) h]
theorem qmN{ids:List Nat}(hl:h.length=h'.length)(hg:∀ i,memN ids i=true->getO h i=getO h' i):onlyF (memN ids) 0 h=onlyF (memN ids) 0 h':=by
 apply qnR
 ·rw [qlc,qlc,hl]
 ·intro i
  rw [qgH,qgH,Nat.zero_add]
  split
  ·exact hg i ‹_›
  ·rfl
theorem qiX:(ss:List (Nat×O))->(h:List O)->(i:Nat)->(∀ p∈ss,p.1≠i)->getO (qac ss h) i=getO h i
 | [],h,i,_=>rfl
 | (j,x) :: r,h,i,hp=>by
  simp only [qac]
  rw [qiX r _ i fun p hm=>hp p (by simp [hm])]
  have:=hp (j,x) (by simp)
  simp only at this
  simp [getO,List.getD,zBA this]
theorem qfD{h h':List O}(hl:h.length=h'.length){i j:Nat}{x:O}(hg:getO h i=getO h' i):getO (h.set j x) i=getO (h'.set j x) i:=by
 simp only [getO,List.getD,zAg] at hg ⊢
 rw [hl]
 split
 ·rfl
 ·exact hg
theorem qgW:(ss:List (Nat×O)) -> {h h':List O}->h.length=h'.length->(i:Nat)->getO h i=getO h' i->getO (qac ss h) i=getO (qac ss h') i
 | [],h,h',_,i,hg=>hg
 | (j,x) :: r,h,h',hl,i,hg=>qgW r (by simp [hl]) i (qfD hl hg)
theorem qtC{h:List O}{ids:List Nat}{f:V}{args:List V}{v:V}{H:List O}(he:callS C h ids f args two=some (v,H)) :
  ∃ g caps p u a,f=.clo g caps/\qbQ ids (argsF g args caps)=true/\clsd ids (onlyF (memN ids) 0 h)=true/\C.G (tgtF g) (argsF g args caps) (onlyF (memN ids) 0 h)=some p/\p.h=some u/\p.r=some a /\
   (u a (onlyF (memN ids) 0 h)).length=h.length/\qmO (memN ids) 0 (u a (onlyF (memN ids) 0 h))=true/\v=p.v a/\H=mixF (memN ids) 0 (u a (onlyF (memN ids) 0 h)) h:=by
 unfold callS at he
 split at he
 ·rename_i g caps
  obtain⟨hc,he⟩:=qc he
  rw [zA] at hc
  split at he
  ·cases he
  ·rename_i p hp
   split at he
   ·cases he
   ·rename_i u hu
    cases hr:p.r with
    | none=>rw [hr] at he;cases he
    | some a=>
     rw [hr] at he
     simp only [Option.bind_some,p.spOk] at he
     obtain⟨hl,he⟩:=qc he
     rw [zA] at hl
     cases he
     exact⟨g,caps,p,u,a,rfl,hc.1,hc.2,hp,hu,hr,zB hl.1,hl.2,rfl,rfl⟩
 ·cases he
theorem qzo{o:Op}{md:Md}{v:V}{H:List O}(he:evM C o t h md two=some (v,H)):(∀ i,¬ md.foot i->getO H i=getO h i)/\(md.isFull=false->H.length=h.length):=by
 cases md with
 | pure=>
  simp only [evM] at he
  rw [qgY o] at he
  obtain⟨u,_,he⟩:=zi.1 he
  cases he
  exact⟨fun _ _=>rfl,fun _=>rfl⟩
 | rd ids=>
  simp only [evM] at he
  rw [qgY o] at he
  obtain⟨u,_,he⟩:=zi.1 he
  cases he
  exact⟨fun _ _=>rfl,fun _=>rfl⟩
 | wr ids=>
  simp only [evM] at he
  cases hS:isS o with
  | false=>
   rw [hS,cond_false] at he
   split at he
   ·obtain⟨g,caps,p,u,a,-,-,-,-,-,-,hl,-,-,rfl⟩:=qtC he
    exact⟨fun i hn=>by rw [qnD _ _ _ _ hl,Nat.zero_add,zJ (show ¬ memN ids i=true from hn)],fun _=>qqT _ _ _ _ hl⟩
   ·split at he
    ·rename_i p hp
     split at he
     ·rename_i hg
      obtain⟨hi,he⟩:=qc he
      simp only [zA] at hi
      cases he
      refine⟨fun i hn=>?_,fun _=>by rw [zAb,qbx]⟩
      have hne:ids.headD 0≠i:=fun e=>hn (by rw [<- e];exact hi.1)
      have e1:getO ((qac p.1 h).set (ids.headD 0) p.2) i=getO (qac p.1 h) i:=by unfold getO;rw [zK,zK,zBA hne]
      rw [e1]
      refine qiX p.1 h i fun q hq e=>hn ?_
      have:=zj.1 hi.2.2 q hq
      rw [e] at this
      exact this
     ·cases he
    ·split at he
     ·rename_i p hp
      obtain⟨hi,he⟩:=qc he
      cases he
      refine⟨fun i hn=>?_,fun _=>by rw [zAb]⟩
      rw [zA] at hi
      have hne:p.2.2.1≠i:=fun e=>hn (by rw [<- e];exact hi.1)
      unfold getO;rw [zK,zK,zBA hne]
     ·cases he
  | true=>
  rw [hS,cond_true] at he
  rw [qgX o] at he
  obtain⟨⟨u,ss,mk⟩,_,he⟩:=zi.1 he
  cases mk with
  | some x=>cases he
  | none=>
   simp only at he
   obtain⟨hi,he⟩:=qc he
   cases he
   refine⟨fun i hn=>qiX ss h i fun p hp e=>hn ?_,fun _=>qbx _ _⟩
   have:=zj.1 hi p hp
   rw [e] at this
   exact this
 | new id=>
  simp only [evM] at he
  cases hS:isS o with
  | true=>
   rw [hS,cond_true,qgX o] at he
   obtain⟨⟨u,ss,mk⟩,_,he⟩:=zi.1 he
   cases ss with
   | cons p ss=>cases he
   | nil=>
    cases mk with
    | none=>cases he
    | some x=>
     simp only at he
     cases hg:getO h id with
     | none=>
      rw [hg] at he
      simp only at he
      obtain⟨_,he⟩:=qc he
      cases he
      refine⟨fun i hn=>?_,fun _=>by simp⟩
      have hn:id≠i:=fun e=>hn e.symm
      simp [getO,List.getD,zBA hn]
     | cells vs=>rw [hg] at he;cases he
     | nst _ _ _=>rw [hg] at he;cases he
     | kds _ _ _ _ _=>rw [hg] at he;cases he
     | gone=>rw [hg] at he;cases he
     | oth fz q d=>rw [hg] at he;cases he
     | row fz ver e s xs=>rw [hg] at he;cases he
  | false=>
   rw [hS,cond_false] at he
   split at he
   ·rw [qlq] at he
    obtain⟨x,_,he⟩:=zi.1 he
    cases hg:getO h id with
    | none=>
     rw [hg] at he
     simp only at he
     obtain⟨_,he⟩:=qc he
     cases he
     refine⟨fun i hn=>?_,fun _=>by simp⟩
     have hn:id≠i:=fun e=>hn e.symm
     simp [getO,List.getD,zBA hn]
    | cells vs=>rw [hg] at he;cases he
    | nst _ _ _=>rw [hg] at he;cases he
    | kds _ _ _ _ _=>rw [hg] at he;cases he
    | gone=>rw [hg] at he;cases he
    | oth fz q d=>rw [hg] at he;cases he
    | row fz ver e s xs=>rw [hg] at he;cases he
   ·cases he
 | full=>exact⟨fun i hn=>absurd trivial hn,fun hf=>by cases hf⟩
theorem qBV{o:Op}{md:Md}{v:V}{H:List O}(ha:Agree md h h')(he:evM C o t h md two=some (v,H)) :
  ∃ H',evM C o t h' md two=some (v,H')/\∀ i,md.foot i->getO H i=getO H' i:=by
 cases md with
 | pure=>
  simp only [evM] at he ⊢
  rw [qgY o] at he
  obtain⟨u,h1,he⟩:=zi.1 he
  cases he
  refine⟨h',?_,fun i hf=>hf.elim⟩
  rw [qgY o,h1];rfl
 | rd ids=>
  simp only [evM] at he ⊢
  rw [qgY o] at he
  obtain⟨u,h1,he⟩:=zi.1 he
  cases he
  refine⟨h',?_,fun i hf=>hf.elim⟩
  rw [qgY o,<- qmN (ha.len rfl) ha.get,h1];rfl
 | wr ids=>
  simp only [evM] at he ⊢
  have hof:=qmN (ids:=ids) (ha.len rfl) ha.get
  cases hS:isS o with
  | false=>
   rw [hS,cond_false] at he
   rw [cond_false]
   split at he
   ·rename_i f args hc
    obtain⟨g,caps,p,u,a,e1,e2,e3,e4,e5,e6,hl,e7,rfl,rfl⟩:=qtC he
    have hl':(u a (onlyF (memN ids) 0 h')).length=h'.length:=by rw [<- hof,hl];exact ha.len rfl
    refine⟨mixF (memN ids) 0 (u a (onlyF (memN ids) 0 h')) h',?_,fun i hf=>?_⟩
    ·simp only [callS,e1,e2,<- hof,e3,Bool.and_self,cond_true,e4,e5,e6,Option.bind_some,p.spOk,e7]
     rw [show Nat.beq (u a (onlyF (memN ids) 0 h)).length h'.length=true by rw [hof,hl'];exact Nat.beq_refl _];rfl
    ·rw [qnD _ _ _ _ hl,qnD _ _ _ _ hl',Nat.zero_add,zH (show memN ids i=true from hf),zH (show memN ids i=true from hf),hof]
   ·rw [<- hof]
    split at he
    ·rename_i p hp
     split at he
     ·rename_i hg
      obtain⟨hi,he⟩:=qc he
      have hi':=hi
      simp only [zA] at hi'
      cases he
      have hg':getO h' (ids.headD 0)=.none:=by rw [<- ha.get _ hi'.1,hg]
      refine⟨(qac p.1 h').set (ids.headD 0) p.2,?_,fun i hf=>qfD (by rw [qbx,qbx];exact ha.len rfl) (qgW p.1 (ha.len rfl) i (ha.get i hf))⟩
      simp only [hg',<- ha.len rfl,hi,cond_true]
     ·cases he
    ·split at he
     ·rename_i p hp
      obtain⟨hi,he⟩:=qc he
      cases he
      exact⟨h'.set p.2.2.1 p.2.2.2,by simp only [hi,cond_true],fun i hf=>qfD (ha.len rfl) (ha.get i hf)⟩
     ·cases he
  | true=>
  rw [hS,cond_true] at he
  rw [qgX o] at he
  obtain⟨⟨u,ss,mk⟩,h1,he⟩:=zi.1 he
  cases mk with
  | some x=>cases he
  | none=>
   simp only at he
   obtain⟨hi,he⟩:=qc he
   cases he
   refine⟨qac ss h',?_,fun i hf=>qgW ss (ha.len rfl) i (ha.get i hf)⟩
   rw [cond_true,qgX o,<- qmN (ha.len rfl) ha.get,h1]
   simp only [Option.bind_some,hi,cond_true]
 | new id=>
  simp only [evM] at he ⊢
  cases hS:isS o with
  | true=>
   rw [hS,cond_true,qgX o] at he
   obtain⟨⟨u,ss,mk⟩,h1,he⟩:=zi.1 he
   cases ss with
   | cons p ss=>cases he
   | nil=>
    cases mk with
    | none=>cases he
    | some x=>
     simp only at he
     cases hg:getO h id with
     | none=>
      rw [hg] at he
      simp only at he
      obtain⟨hlt,he⟩:=qc he
      cases he
      have hg':getO h' id=.none:=by rw [<- ha.get id rfl,hg]
      refine⟨h'.set id x,?_,fun i hf=>?_⟩
      ·rw [cond_true,qgX o,h1]
       simp only [Option.bind_some,hg',<- ha.len rfl,hlt,cond_true]
      ·exact qfD (ha.len rfl) (ha.get i hf)
     | cells vs=>rw [hg] at he;cases he
     | nst _ _ _=>rw [hg] at he;cases he
     | kds _ _ _ _ _=>rw [hg] at he;cases he
     | gone=>rw [hg] at he;cases he
     | oth fz q d=>rw [hg] at he;cases he
     | row fz ver e s xs=>rw [hg] at he;cases he
  | false=>
   rw [hS,cond_false] at he
   rw [cond_false]
   split at he
   ·rename_i f args hc
    rw [qlq] at he
    obtain⟨x,h1,he⟩:=zi.1 he
    cases hg:getO h id with
    | none=>
     rw [hg] at he
     simp only at he
     obtain⟨hlt,he⟩:=qc he
     cases he
     have hg':getO h' id=.none:=by rw [<- ha.get id rfl,hg]
     refine⟨h'.set id x,?_,fun i hf=>?_⟩
     ·rw [qlq,h1]
      simp only [Option.bind_some,hg',<- ha.len rfl,hlt,cond_true]
     ·exact qfD (ha.len rfl) (ha.get i hf)
    | cells vs=>rw [hg] at he;cases he
    | nst _ _ _=>rw [hg] at he;cases he
    | kds _ _ _ _ _=>rw [hg] at he;cases he
    | gone=>rw [hg] at he;cases he
    | oth fz q d=>rw [hg] at he;cases he
    | row fz ver e s xs=>rw [hg] at he;cases he
   ·cases he
 | full=>
  have:h=h':=qnR (ha.len rfl) fun i=>ha.get i trivial
  subst this
  exact⟨H,he,fun _ _=>rfl⟩
theorem qnF{a b:List Nat}(hd:disj a b=true){i:Nat}(ha:memN a i=true)(hb:memN b i=true):False:=by
 unfold memN at ha
 obtain⟨x,hx,he⟩:=zAS.1 ha
 have he:=zB he
 subst he
 have:=zj.1 hd i hx
 simp [hb] at this
theorem qBp{a b:Md}(hm:mdOk a b=true):(∀ i,a.foot i->¬ b.sees i)/\(∀ i,b.foot i->¬ a.sees i)/\(a.isFull=true->b.isPure=true)/\(b.isFull=true->a.isPure=true):=by
 have hne:∀ {ids:List Nat} {j:Nat},(!memN ids j)=true->memN ids j=true->False:=fun {ids j} h1 h2=>by simp [h2] at h1
 cases a <;> cases b <;> simp only [mdOk,zA,zAA] at hm <;>
  refine⟨fun i hf hs=>?_,fun i hf hs=>?_,fun hh=>?_,fun hh=>?_⟩ <;>
  simp only [Md.foot,Md.sees,Md.isFull,Md.isPure,zAA] at * <;>
  first
   | (subst hf;subst hs;simp at hm;done)
   | (subst hf;exact hne hm hs)
   | (subst hs;exact hne hm hf)
   | exact qnF hm hf hs
   | exact qnF hm hs hf
   | exact qnF hm.1 hf hs
   | exact qnF hm.1 hs hf
end
end Go.Abs
namespace Go.Abs
section
variable {ρ : Type} {C : Ctx} {all : List Oper}
abbrev S:=(Nat->V)×List O
def upd(dst:Option Tmp)(v:V)(t:Nat->V):Nat->V:=
 match dst with
 | none=>t
 | some d=>fun i=>bif Nat.beq d i then v else t i
def okDst(n:Nat):Option Tmp->Bool
 | none=>true
 | some d=>Nat.blt d n
def actA(C:Ctx)(all:List Oper)(o:Oper)(md:Md)(t:Nat->V)(h:List O):Option (V×List O):=
 match o.guard with
 | none=>evM C o.op t h md two
 | some (j,want)=>
  match dstOf all j with
  | none=>none
  | some d=>
   match t d with
   | .bool b=>if b=want then evM C o.op t h md two else some (.undef,h)
   | .undef=>some (.undef,h)
   | _=>none
def stepA(C:Ctx)(all:List Oper)(x:Oper×Md)(s:S):Option S:=
 bif okDst C.n x.1.dst then (actA C all x.1 x.2 s.1 s.2).map fun p=>(upd x.1.dst p.1 s.1,p.2) else none
def runA(C:Ctx)(all:List Oper):List (Oper×Md)->S->Option S
 | [],s=>some s
 | x :: r,s=>(stepA C all x s).bind (runA C all r)
def zipM:List Oper->List Md->List (Oper×Md)
 | [],_=>[]
 | o :: r,mds=>(o,mds.headD .full) :: zipM r mds.tail
theorem qwl(d:Nat)(v:V)(t:Slots):look ((d,v) :: t)=upd (some d) v (look t):=rfl
theorem upd_same{t:Nat->V}{d:Nat}{v:V}(h:t d=v):upd (some d) v t=t:=by
 funext i
 simp only [upd]
 cases hb:Nat.beq d i with
 | false=>rfl
 | true=>have:=zB hb;subst this;exact h.symm
theorem qug{n:Nat}{dst:Option Tmp}{v:V}{t:Slots}{K:Slots->Option ρ}{res:ρ}(h:putD n dst v t K=some res):okDst n dst=true/\∃ t',look t'=upd dst v (look t)/\K t'=some res:=by
 cases dst with
 | none=>exact⟨rfl,t,rfl,h⟩
 | some d=>
  simp only [putD] at h
  obtain⟨h1,h2⟩:=qc h
  exact⟨h1,_,qwl d v t,h2⟩
theorem qlE:(r:List Oper)->(mds:List Md)->(t:Slots)->(h:List O)->(K:Slots->List O->Option ρ) -> {res:ρ}->opsK C all r mds t h K=some res ->
  ∃ t' h',runA C all (zipM r mds) (look t,h)=some (look t',h')/\K t' h'=some res
 | [],mds,t,h,K,res,hk=>⟨t,h,rfl,hk⟩
 | o :: r,mds,t,h,K,res,hk=>by
  have fin:∀ {v:V} {t1:Slots} {H:List O},look t1=look t->actA C all o (mds.headD .full) (look t) h=some (v,H) ->
    putD C.n o.dst v t1 (fun t=>opsK C all r mds.tail t H K)=some res->∃ t' h',runA C all (zipM (o :: r) mds) (look t,h)=some (look t',h')/\K t' h'=some res:=by
   intro v t1 H e1 e2 e3
   obtain⟨h1,t2,h2,h3⟩:=qug e3
   obtain⟨t3,h4,h5,h6⟩:=qlE r mds.tail t2 H K h3
   refine⟨t3,h4,?_,h6⟩
   simp only [zipM,runA,stepA,h1,cond_true,e2,Option.map_some,Option.bind_some]
   rw [<- e1,<- h2];exact h5
  have evd:∀ {t1:Slots},look t1=look t->evM C o.op (look t1) h (mds.headD .full) (fun v h=>putD C.n o.dst v t1 fun t=>opsK C all r mds.tail t h K)=some res ->
    ∃ v H,evM C o.op (look t) h (mds.headD .full) two=some (v,H)/\putD C.n o.dst v t1 (fun t=>opsK C all r mds.tail t H K)=some res:=by
   intro t1 e1 e2
   rw [qER] at e2
   obtain⟨⟨v,H⟩,h1,h2⟩:=zi.1 e2
   rw [e1] at h1
   exact⟨v,H,h1,h2⟩
  simp only [opsK] at hk
  cases hg:o.guard with
  | none=>
   rw [hg] at hk
   simp only at hk
   obtain⟨v,H,h1,h2⟩:=evd rfl hk
   exact fin rfl (by simp only [actA,hg];exact h1) h2
  | some gw=>
   obtain⟨j,want⟩:=gw
   rw [hg] at hk
   simp only at hk
   cases hd:dstOf all j with
   | none=>rw [hd] at hk;cases hk
   | some d=>
    rw [hd] at hk
    simp only at hk
    cases ht:look t d with
    | bool b=>
     rw [ht] at hk
     simp only at hk
     have hup:look ((d,.bool b) :: t)=look t:=by rw [qwl,upd_same ht]
     cases b with
     | true=>
      simp only [cond_true] at hk
      cases want with
      | true=>
       simp only [cond_true] at hk
       obtain⟨v,H,h1,h2⟩:=evd hup hk
       exact fin hup (by simp only [actA,hg,hd,ht,if_true];exact h1) h2
      | false=>
       simp only [cond_false] at hk
       exact fin hup (by simp [actA,hg,hd,ht]) hk
     | false=>
      simp only [cond_false] at hk
      cases want with
      | true=>
       simp only [cond_true] at hk
       exact fin hup (by simp [actA,hg,hd,ht]) hk
      | false=>
       simp only [cond_false] at hk
       obtain⟨v,H,h1,h2⟩:=evd hup hk
       exact fin hup (by simp only [actA,hg,hd,ht,if_true];exact h1) h2
    | undef=>
     rw [ht] at hk
     exact fin rfl (by simp [actA,hg,hd,ht]) hk
    | _=>rw [ht] at hk;cases hk
theorem qlT{o:Oper}{md:Md}{t t':Nat->V}{h:List O}(hs:∀ i∈reads all o,t i=t' i):actA C all o md t h=actA C all o md t' h:=by
 have h1:Same t t' o.op:=fun i hi=>hs i (zV _ hi)
 have h2:=qBW (C:=C) (h:=h) h1 md two
 unfold actA
 cases hg:o.guard with
 | none=>exact h2
 | some gw=>
  obtain⟨j,want⟩:=gw
  simp only
  cases hd:dstOf all j with
  | none=>rfl
  | some d=>
   have:=hs d (za _ (by simp [qze,hg,hd]))
   simp only [this,h2]
theorem qrt{md:Md}{i:Nat}(h:md.foot i):md.sees i:=by
 cases md <;> simp_all [Md.foot,Md.sees]
theorem qoe{o:Oper}{md:Md}{t:Nat->V}{h:List O}{v:V}{H:List O}(he:actA C all o md t h=some (v,H)):(∀ i,¬ md.foot i->getO H i=getO h i)/\(md.isFull=false->H.length=h.length):=by
 unfold actA at he
 split at he
 ·exact qzo he
 ·split at he
  ·cases he
  ·split at he
   ·split at he
    ·exact qzo he
    ·cases he;exact⟨fun _ _=>rfl,fun _=>rfl⟩
   ·cases he;exact⟨fun _ _=>rfl,fun _=>rfl⟩
   ·cases he
theorem qzA{o:Oper}{md:Md}{t:Nat->V}{h h':List O}{v:V}{H:List O}(ha:Agree md h h')(he:actA C all o md t h=some (v,H)) :
  ∃ H',actA C all o md t h'=some (v,H')/\∀ i,md.foot i->getO H i=getO H' i:=by
 unfold actA at he ⊢
 split at he
 ·exact qBV ha he
 ·split at he
  ·cases he
  ·split at he
   ·split at he
    ·rename_i hb;subst hb
     simp only [if_true]
     exact qBV ha he
    ·rename_i hb
     cases he;exact⟨h',by simp [hb],fun i hf=>ha.get i (qrt hf)⟩
   ·cases he;exact⟨h',rfl,fun i hf=>ha.get i (qrt hf)⟩
   ·cases he
theorem qqg{l:List Nat}{i:Nat}:memN l i=true↔i∈l:=by
 unfold memN
 rw [zAS]
 exact⟨fun ⟨x,h1,h2⟩=>by rw [zB h2];exact h1,fun h=>⟨i,h,Nat.beq_refl i⟩⟩
theorem qnh{dst:Option Tmp}{l:List Nat}(h:notIn dst l=true){v:V}{t:Nat->V}:∀ i∈l,t i=upd dst v t i:=by
 intro i hi
 cases dst with
 | none=>rfl
 | some d=>
  simp only [upd]
  cases hb:Nat.beq d i with
  | false=>rfl
  | true=>
   have:=zB hb;subst this
   simp only [notIn,qqg.2 hi] at h;cases h
theorem qyv{a b:Option Tmp}(h:qAB a b=true){u v:V}{t:Nat->V}:upd a u (upd b v t)=upd b v (upd a u t):=by
 cases a with
 | none=>rfl
 | some x=>
  cases b with
  | none=>rfl
  | some y=>
   funext i
   simp only [upd]
   cases hx:Nat.beq x i with
   | false=>rfl
   | true=>
    cases hy:Nat.beq y i with
    | false=>rfl
    | true=>
     have e1:=zB hx;have e2:=zB hy
     subst e1;subst e2
     simp [qAB,Nat.beq_refl] at h
theorem qjg{x:Oper×Md}{s s':S}(h:stepA C all x s=some s'):okDst C.n x.1.dst=true/\∃ v H,actA C all x.1 x.2 s.1 s.2=some (v,H)/\s'=(upd x.1.dst v s.1,H):=by
 unfold stepA at h
 obtain⟨h1,h2⟩:=qc h
 obtain⟨⟨v,H⟩,h3,h4⟩:=zAd.1 h2
 exact⟨h1,v,H,h3,h4.symm⟩
theorem qlN{k v:Sh}{x:k.den}{es:Ents k v}{e:Int×(k.den×v.den)}:entOf k v x (es ++ [e])=match entOf k v x es with | some r=>some r | none=>bif eqD k x e.2.1 then some e else none:=by
 induction es with
 | nil=>rfl
 | cons f r ih=>
  simp only [List.cons_append,entOf]
  cases eqD k x f.2.1 with
  | true=>rfl
  | false=>simp only [cond_false];exact ih
theorem qBj{k v:Sh}(d:Mp k v)(y x:k.den):mpGet k v (mpEnt k v d y) x=mpGet k v d x:=by
 unfold mpEnt
 cases mpHas k v d y with
 | true=>rfl
 | false=>
  simp only [cond_false,mpGet,qlN]
  cases entOf k v x d.2 with
  | some r=>rfl
  | none=>
   simp only
   cases eqD k x y <;> rfl
theorem qBr{T:List (Nat×TE)}{h:List O}{ids:List Nat}{oi:Nat}{q:Oth}{d:q.sh.den}{y:q.k.den}(eo:getO h oi=.oth false q d){ty:TypeId}{u:V}{ob:Nat}{fz:Bool}{p:Σ q:Oth,q.sh.den}
  (hat:mapAt T (onlyF (memN ids) 0 h) ty u=some (ob,fz,p)) :
  ∃ fz' d',mapAt T (onlyF (memN ids) 0 (h.set oi (.oth false q (mpEnt q.k q.v d y)))) ty u=some (ob,fz',⟨p.1,d'⟩)/\∀ x,mpGet p.1.k p.1.v d' x=mpGet p.1.k p.1.v p.2 x:=by
 have hlt:=qab (h:=h) (i:=oi) (by rw [eo];simp)
 unfold mapAt at hat ⊢
 cases hq:mapTy T ty with
 | none=>rw [hq] at hat;cases hat
 | some q0=>
  rw [hq] at hat
  simp only at hat ⊢
  cases u with
  | ptr o1 off=>
   simp only at hat ⊢
   rw [qgH,Nat.zero_add] at hat ⊢
   cases hmem:memN ids o1 with
   | false=>rw [hmem] at hat;simp at hat
   | true=>
    rw [hmem] at hat
    simp only [if_true] at hat ⊢
    rw [qZ hlt]
    by_cases e:oi=o1
    ·subst e
     rw [zH rfl]
     rw [eo] at hat
     simp only at hat ⊢
     obtain⟨c1,c2⟩:=qc hat
     simp only [zF,zO] at c2
     obtain⟨rfl,rfl,rfl⟩:=c2
     rw [c1]
     exact⟨_,_,rfl,fun x=>qBj d y x⟩
    ·rw [zJ e]
     exact⟨fz,p.2,hat,fun x=>rfl⟩
  | _=>cases hat
theorem qBd{T:List (Nat×TE)}{h:List O}{ids:List Nat}{oi:Nat}{q:Oth}{d d':q.sh.den}(eo:getO h oi=.oth false q d){ty:TypeId}{u:V}{p:Nat×Nat×(Σ q:Nst,q.sh.den)}
  (hat:nstAt T (onlyF (memN ids) 0 h) ty u=some p):nstAt T (onlyF (memN ids) 0 (h.set oi (.oth false q d'))) ty u=some p:=by
 have hlt:=qab (h:=h) (i:=oi) (by rw [eo];simp)
 unfold nstAt at hat ⊢
 cases hq:qpk T ty with
 | none=>rw [hq] at hat;cases hat
 | some q0=>
  rw [hq] at hat
  cases u with
  | ptr o1 off=>
   simp only at hat ⊢
   rw [qgH,Nat.zero_add] at hat ⊢
   cases hmem:memN ids o1 with
   | false=>rw [hmem] at hat;simp at hat
   | true=>
    rw [hmem] at hat
    simp only [if_true] at hat ⊢
    rw [qZ hlt]
    by_cases e:oi=o1
    ·subst e;rw [eo] at hat;cases hat
    ·rw [zJ e];exact hat
  | _=>cases hat
theorem quS{x y:Oper×Md}(hsw:qya x.1 x.2 y.1 y.2=true){t:Nat->V}{h H1 H2:List O}{va vb:V}(e1:actA C all x.1 x.2 t h=some (va,H1))(e2:actA C all y.1 y.2 t H1=some (vb,H2)) :
  actA C all y.1 y.2 t h=some (vb,H2)/\actA C all x.1 x.2 t H2=some (va,H2):=by
 obtain⟨a,ma⟩:=x
 obtain⟨b,mb⟩:=y
 unfold qya at hsw
 simp only at hsw e1 e2 ⊢
 split at hsw
 case h_2=>cases hsw
 rename_i ty m k hop
 split at hsw
 ·cases hsw
 rename_i hga
 split at hsw
 case h_2=>cases hsw
 rename_i ty' m' k' hop'
 split at hsw
 ·cases hsw
 rename_i hgb
 split at hsw
 case h_2=>cases hsw
 rename_i ids
 split at hsw
 case h_2=>cases hsw
 rename_i ids'
 unfold actA at e1 e2 ⊢
 rw [hga] at e1 ⊢
 rw [hgb] at e2 ⊢
 simp only [evM,hop,hop',evR,isS,cond_true,evS] at e1 e2 ⊢
 have hH1:h=H1:=by
  split at e1
  ·rw [qlh] at e1
   obtain⟨v,-,e⟩:=zi.1 e1
   cases e;rfl
  ·rw [qre] at e1
   obtain⟨v,-,e⟩:=zi.1 e1
   cases e;rfl
 subst hH1
 refine⟨e2,?_⟩
 unfold qhQ at e2
 split at e2
 ·cases e2
 rename_i oi fz' q' d' hat'
 rcases fz' with _ | _
 case true=>cases e2
 simp only [cond_false] at e2
 split at e2
 ·cases e2
 rename_i z' hz'
 obtain⟨c2,e2⟩:=qc e2
 simp only [two,zF,zO,qac] at e2
 obtain⟨-,rfl⟩:=e2
 have eo:getO h oi=.oth false q' d':=by
  unfold mapAt at hat'
  split at hat'
  ·cases hat'
  ·rename_i q0 _
   cases hu:ev t m' with
   | ptr o1 off=>
    rw [hu] at hat'
    simp only at hat'
    rw [qgH,Nat.zero_add] at hat'
    cases hmem:memN ids' o1 with
    | false=>rw [hmem] at hat';simp at hat'
    | true=>
     rw [hmem] at hat'
     simp only [if_true] at hat'
     cases eo:getO h o1 with
     | oth fz1 q1 d1=>
      rw [eo] at hat'
      simp only at hat'
      obtain⟨_,c⟩:=qc hat'
      simp only [zF,zO] at c
      obtain⟨rfl,rfl,c⟩:=c
      cases c
      exact eo
     | _=>rw [eo] at hat';cases hat'
   | _=>rw [hu] at hat';cases hat'
 split at e1
 ·rw [qlh] at e1 ⊢
  obtain⟨v,e1,e⟩:=zi.1 e1
  cases e
  have:qiD C (onlyF (memN ids) 0 (h.set oi (.oth false q' (mpEnt q'.k q'.v d' z')))) ty (ev t m) (ev t k) false some=some va:=by
   unfold qiD at e1 ⊢
   split at e1
   ·cases e1
   rename_i ob ver q d hat
   rw [qBd eo hat]
   exact e1
  rw [this];rfl
 unfold qmS at e1 ⊢
 split at e1
 ·cases e1
 rename_i ob fz q d hat
 split at e1
 ·cases e1
 rename_i z hz
 simp only [cond_false,two,zF,zO] at e1
 obtain⟨rfl,-⟩:=e1
 obtain⟨fz2,d2,hat2,hget⟩:=qBr (y:=z') eo hat
 rw [hat2]
 simp only [hz,cond_false,two]
 rw [hget]
theorem qzI{x y:Oper×Md}(hsw:qvx all x.1 x.2 y.1 y.2=true){s s1 s2:S}(h1:stepA C all x s=some s1)(h2:stepA C all y s1=some s2) :
  ∃ s1',stepA C all y s=some s1'/\stepA C all x s1'=some s2:=by
 simp only [qvx,zA] at hsw
 obtain⟨⟨⟨hu,hxy⟩,hyx⟩,hm⟩:=hsw
 rw [zz] at hm
 rcases hm with hm | hm
 case inr=>
  obtain⟨o1,va,H1,e1,rfl⟩:=qjg h1
  obtain⟨o2,vb,H2,e2,rfl⟩:=qjg h2
  simp only at e2
  rw [<- qlT (qnh hxy)] at e2
  obtain⟨e3,e4⟩:=quS hm e1 e2
  refine⟨(upd y.1.dst vb s.1,H2),?_,?_⟩
  ·simp only [stepA,o2,cond_true,e3,Option.map_some]
  ·rw [qlT (qnh hyx (v:=vb))] at e4
   simp only [stepA,o1,cond_true,e4,Option.map_some,qyv hu]
 obtain⟨m1,m2,m3,m4⟩:=qBp hm
 obtain⟨o1,va,H1,e1,rfl⟩:=qjg h1
 obtain⟨o2,vb,H2,e2,rfl⟩:=qjg h2
 simp only at e2
 rw [<- qlT (qnh hxy)] at e2
 obtain⟨f1,l1⟩:=qoe e1
 obtain⟨f2,l2⟩:=qoe e2
 have full_of:∀ {md:Md},md.isPure=false->md.isFull=true\/md.isFull=false:=fun {md} _=>by cases md.isFull <;> simp
 have pf:∀ {md:Md},md.isPure=true->∀ i,¬ md.foot i:=fun {md} hp i=>by cases md <;> simp_all [Md.isPure,Md.foot]
 have pnf:∀ {md:Md},md.isPure=true->md.isFull=false:=fun {md} hp=>by cases md <;> simp_all [Md.isPure,Md.isFull]
 have nfull:∀ {md md':Md},(md.isFull=true->md'.isPure=true)->md'.isPure=false->md.isFull=false:=fun {md md'} hh hp=>by
  cases hf:md.isFull with
  | false=>rfl
  | true=>rw [hh hf] at hp;cases hp
 have ag1:Agree y.2 H1 s.2:=⟨fun hp=>l1 (nfull m3 hp),fun i hs=>f1 i fun hf=>m1 i hf hs⟩
 obtain⟨H1',e3,g3⟩:=qzA ag1 e2
 obtain⟨f3,l3⟩:=qoe e3
 have ag2:Agree x.2 s.2 H1':=⟨fun hp=>(l3 (nfull m4 hp)).symm,fun i hs=>(f3 i fun hf=>m2 i hf hs).symm⟩
 obtain⟨H2',e4,g4⟩:=qzA ag2 e1
 obtain⟨f4,l4⟩:=qoe e4
 have hH:H2=H2':=by
  apply qnR
  ·cases hx:x.2.isFull with
   | true=>
    have hp:=m3 hx
    have h12:H2.length=H1.length:=l2 (pnf hp)
    have hs1:s.2=H1':=(qnR (l3 (pnf hp)) fun i=>f3 i (pf hp i)).symm
    rw [<- hs1,e1] at e4
    cases e4
    exact h12
   | false=>
    cases hy:y.2.isFull with
    | true=>
     have hp:=m4 hy
     have hs1:H1=s.2:=qnR (l1 hx) fun i=>f1 i (pf hp i)
     rw [hs1,e3] at e2
     cases e2
     exact (l4 hx).symm
    | false=>rw [l2 hy,l1 hx,l4 hx,l3 hy]
  ·intro i
   by_cases hx:x.2.foot i
   ·rw [f2 i fun hf=>m1 i hx (qrt hf),g4 i hx]
   ·by_cases hy:y.2.foot i
    ·rw [g3 i hy,f4 i hx]
    ·rw [f2 i hy,f1 i hx,f4 i hx,f3 i hy]
 subst hH
 refine⟨(upd y.1.dst vb s.1,H1'),?_,?_⟩
 ·simp only [stepA,o2,cond_true,e3,Option.map_some]
 ·rw [qlT (qnh hyx (v:=vb))] at e4
  simp only [stepA,o1,cond_true,e4,Option.map_some,qyv hu]
theorem qrs:(pre:List (Oper×Md)) -> {x:Oper×Md} -> {post:List (Oper×Md)}->(∀ p∈pre,qvx all p.1 p.2 x.1 x.2=true) -> {s s':S} ->
  runA C all (pre++x :: post) s=some s'->∃ s1,stepA C all x s=some s1/\runA C all (pre++post) s1=some s'
 | [],x,post,hp,s,s',h=>by
  obtain⟨s1,h1,h2⟩:=zi.1 h
  exact⟨s1,h1,h2⟩
 | p :: pre,x,post,hp,s,s',h=>by
  obtain⟨s1,h1,h2⟩:=zi.1 h
  obtain⟨s2,h3,h4⟩:=qrs pre (fun q hq=>hp q (by simp [hq])) h2
  obtain⟨s1',h5,h6⟩:=qzI (hp p (by simp)) h1 h3
  refine⟨s1',h5,?_⟩
  simp only [List.cons_append,runA,h6,Option.bind_some]
  exact h4
end
end Go.Abs
