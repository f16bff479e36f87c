import Derived.Test.YtnhjpicdijeagaaDoorAbsOpsS
namespace Go.Abs
section
variable {ρ : Type} {C : Ctx} {h : List O} {t t' : Nat -> V}
theorem qi{α β:Type}(b:Bool)(x y:Option α)(K:α->Option β):(bif b then x else y).bind K=bif b then x.bind K else y.bind K:=by cases b <;> rfl
theorem qyW(op:BinOp)(k:IntKind)(x y:Int)(K:V->Option ρ):qse op k x y K=(qse op k x y some).bind K:=by
 cases op <;> simp only [qse,qi,Option.bind_some,Option.bind_none]
theorem qwE(op:BinOp)(x y:Bool)(K:V->Option ρ):qtv op x y K=(qtv op x y some).bind K:=by
 cases op <;> rfl
theorem qyV(op:BinOp)(ty:TypeId)(x y:V)(K:V->Option ρ):qic C op ty x y K=(qic C op ty x y some).bind K:=by
 cases x <;> cases y <;> simp only [qic,qi,Option.bind_none]
 ·rw [qyW];split <;> simp [Option.bind_none]
 ·rw [qwE]
 ·unfold nilOp
  split
  ·rfl
  ·cases op <;> rfl
 ·unfold qxQ
  split
  ·rfl
  ·rw [qi]
   congr 1
   split
   ·rfl
   ·split
    ·rfl
    ·split
     ·rfl
     ·split <;> rfl
theorem qze(op:UnOp)(x:V)(K:V->Option ρ):unOpK op x K=(unOpK op x some).bind K:=by
 cases x <;> cases op <;> rfl
theorem qAc(ty:TypeId)(a:V)(K:V->Option ρ):loadK C h ty a K=(loadK C h ty a some).bind K:=by
 unfold loadK
 split
 ·rfl
 ·split
  ·rfl
  ·rw [qi];rfl
theorem qnQ(size:Nat)(agg:Bool)(vs:List V)(i:Int)(K:V->Option ρ):(n j:Nat)->qhd size agg vs i K n j=(qhd size agg vs i some n j).bind K
 | 0,j=>rfl
 | n+1,j=>by simp only [qhd,qi,Option.bind_some];rw [qnQ _ _ _ _ _ n]
theorem qmL{α β:Type}(x:Option Operand)(d:Int)(K:Int->Option α)(L:α->Option β):(qfZ t x d K).bind L=qfZ t x d (fun y=>(K y).bind L):=by
 unfold qfZ
 split
 ·rfl
 ·split <;> rfl
theorem qyS(ty:TypeId)(ps:List (Nat×Operand))(K:V->Option ρ):qqr C t ty ps K=(qqr C t ty ps some).bind K:=by
 unfold qqr
 repeat' (first | rfl | split)
theorem qra(ty:TypeId)(x:V)(f:Nat)(K:V->Option ρ):qfP C h ty x f K=(qfP C h ty x f some).bind K:=by
 unfold qfP
 split
 ·rfl
 ·split
  ·split
   ·rfl
   ·rw [qi]
    cases x <;> simp only [qi,Option.bind_some,Option.bind_none]
    split <;> rfl
  ·rfl
theorem qyI(ty:TypeId)(x:V)(f:Nat)(K:V->Option ρ):qrO C ty x f K=(qrO C ty x f some).bind K:=by
 unfold qrO
 split
 ·rfl
 ·split
  ·split
   ·rfl
   ·split
    ·rfl
    ·cases x <;> simp only [qi,Option.bind_some,Option.bind_none]
  ·rfl
theorem qpN(ty:TypeId)(x i:V)(K:V->Option ρ):qeI C h ty x i K=(qeI C h ty x i some).bind K:=by
 unfold qeI
 split
 ·rfl
 ·cases i <;> simp only [Option.bind_none]
  cases x <;> simp only [qi,Option.bind_some,Option.bind_none]
  all_goals split <;> simp only [qi,Option.bind_some,Option.bind_none]
theorem qnP(o a size:Nat)(i:Int)(K:V->Option ρ):(n j:Nat)->qhc o a size i K n j=(qhc o a size i some n j).bind K
 | 0,j=>rfl
 | n+1,j=>by simp only [qhc,qi,Option.bind_some];rw [qnP _ _ _ _ _ n]
theorem qqZ(ty:TypeId)(x i:V)(K:V->Option ρ):qfO C h ty x i K=(qfO C h ty x i some).bind K:=by
 unfold qfO
 split
 ·cases i <;> simp only [Option.bind_none]
  cases x <;> simp only [qi,Option.bind_none]
  rw [qnP]
 ·exact qpN ty x i K
theorem qyz(ty:TypeId)(x i:V)(K:V->Option ρ):qrI C ty x i K=(qrI C ty x i some).bind K:=by
 unfold qrI
 split
 ·rfl
 ·split
  ·split
   ·rfl
   ·cases i <;> simp only [Option.bind_none]
    cases x <;> simp only [qi,Option.bind_none]
    rw [qnQ]
  ·rfl
theorem qsZ(ty:TypeId)(s:ByteArray)(i:V)(K:V->Option ρ):qjA C ty s i K=(qjA C ty s i some).bind K:=rfl
theorem qvS(ty:TypeId)(x:V)(lo hi:Option Operand)(K:V->Option ρ):qmH C ty x lo hi K=(qmH C ty x lo hi some).bind K:=by
 unfold qmH
 split
 ·rfl
 ·split
  ·rfl
  ·split
   ·rfl
   ·split
    ·rw [qi];rfl
    ·rfl
theorem qvR(ty:TypeId)(s:Sh)(y:s.den)(lo hi:Option Operand)(K:V->Option ρ):qkM C t ty s y lo hi K=(qkM C t ty s y lo hi some).bind K:=by
 unfold qkM
 split
 ·rfl
 split
 ·rfl
 split
 ·rfl
 rw [qi]
 congr 1
 split
 ·rfl
 ·simp only [qmL,qi,Option.bind_none,Option.bind_some]
theorem qyk(ty:TypeId)(x:V)(lo hi:Option Operand)(K:V->Option ρ):qoT C h t ty x lo hi K=(qoT C h t ty x lo hi some).bind K:=by
 unfold qoT
 split
 ·split
  ·exact qvR _ _ _ _ _ _
  ·exact qvS _ _ _ _ _
 ·cases x <;> (try simp only [qi,Option.bind_none,qmL,Option.bind_some])
  cases hi with
  | some _=>rfl
  | none=>
   simp only
   split
   ·simp only [qi,Option.bind_none,qmL,Option.bind_some]
   ·rfl
theorem qCg(ty:TypeId)(x:V)(K:V->Option ρ):lenK C h ty x K=(lenK C h ty x some).bind K:=by
 unfold lenK
 repeat' (first | rfl | split)
theorem qps(m:Bool)(vs:List V)(K:V->Option ρ):qkT m vs K=(qkT m vs some).bind K:=by
 unfold qkT
 repeat' (first | rfl | split)
theorem qyQ(f:V)(args:List V)(K:V->Option ρ):qsc C h f args K=(qsc C h f args some).bind K:=by
 unfold qsc
 split
 ·split
  ·rfl
  ·split
   ·rename_i p _ _ _
    simp only [p.spOk]
    cases p.r <;> rfl
   ·rfl
 ·rfl
theorem qvh(s d:TypeId)(x:V)(K:V->Option ρ):qkd C s d x K=(qkd C s d x some).bind K:=by
 unfold qkd
 repeat' (first | rfl | split)
theorem qzA(c a b:V)(K:V->Option ρ):pickK c a b K=(pickK c a b some).bind K:=by
 cases c <;> simp only [pickK,qi,Option.bind_some,Option.bind_none]
theorem qsK(x:V)(K:V->Option ρ):qdA h x K=(qdA h x some).bind K:=by
 cases x <;> simp only [qdA,qi,Option.bind_some,Option.bind_none]
theorem quS(x:V)(i:Nat)(K:V->Option ρ):qiE x i K=(qiE x i some).bind K:=by
 unfold qiE
 repeat' (first | rfl | split)
theorem qpF(ty:TypeId)(x i:V)(ok:Bool)(K:V->Option ρ):qkV C h ty x i ok K=(qkV C h ty x i ok some).bind K:=by
 unfold qkV
 split
 ·rfl
 ·split
  ·rfl
  ·rw [qi];rfl
theorem qjv(ty:TypeId)(x i:V)(ok:Bool)(K:V->Option ρ):qgY C h ty x i ok K=(qgY C h ty x i ok some).bind K:=by
 unfold qgY
 split
 ·rfl
 ·split
  ·rfl
  ·split
   ·rfl
   ·simp only [qi,Option.bind_none,Option.bind_some]
theorem qwt(x:V)(K:V->Option ρ):qqe h x K=(qqe h x some).bind K:=rfl
theorem qAe(x:V)(K:V->Option ρ):lenNK h x K=(lenNK h x some).bind K:=rfl
theorem qyK(x:V)(K:V->Option ρ):qrP h x K=(qrP h x some).bind K:=by
 unfold qrP
 split
 ·exact qwt _ _
 ·split
  ·rw [qi];rfl
  ·rfl
theorem qwm(ty:TypeId)(x:V)(K:V->Option ρ):qmR C h ty x K=(qmR C h ty x some).bind K:=by
 unfold qmR
 split
 ·split
  ·rfl
  ·exact qAe _ _
 ·rfl
theorem qAZ(c:Call)(K:V->Option ρ):callR C t h c K=(callR C t h c some).bind K:=by
 unfold callR
 split
 ·split
  ·split
   ·split
    ·exact qwm _ _ _
    ·exact qCg _ _ _
   ·rfl
  ·exact qps _ _ _
  ·exact qps _ _ _
  ·rfl
 ·split
  ·rfl
  ·exact qyQ _ _ _
theorem qdY(op:BinOp)(b:Bool)(K:V->Option ρ):qga op b K=(qga op b some).bind K:=by
 unfold qga
 split <;> rfl
theorem qwa(op:BinOp)(ty:TypeId)(x:V)(K:V->Option ρ):qmK C op ty x K=(qmK C op ty x some).bind K:=by
 unfold qmK
 split
 ·rfl
 ·split
  ·split
   ·exact qdY _ _ _
   ·rw [qi,qdY];rfl
   ·exact qdY _ _ _
   ·rfl
  ·rfl
theorem qwh(op:BinOp)(ty:TypeId)(x:V)(K:V->Option ρ):qmO C h op ty x K=(qmO C h op ty x some).bind K:=by
 unfold qmO
 split
 ·rfl
 ·split
  ·split
   ·exact qdY _ _ _
   ·split
    ·rw [qi,qdY];rfl
    ·rfl
   ·split
    ·rw [qi,qdY];rfl
    ·rfl
   ·rfl
  ·rfl
theorem qwr(op:BinOp)(ty:TypeId)(x:V)(K:V->Option ρ):qmV C op ty x K=(qmV C op ty x some).bind K:=by
 unfold qmV
 split
 ·rfl
 ·split
  ·split
   ·exact qdY _ _ _
   ·exact qdY _ _ _
   ·rfl
  ·rfl
theorem qyp(ty:TypeId)(x:V)(K:V->Option ρ):qrE C ty x K=(qrE C ty x some).bind K:=by
 unfold qrE
 split
 ·rfl
 ·split <;> rfl
theorem qdx(o:Op)(K:V->Option ρ):evR C o t h K=(evR C o t h some).bind K:=by
 unfold evR
 split
 ·rfl
 ·rfl
 ·exact qzA _ _ _ _
 ·split
  ·exact qwr _ _ _ _
  ·exact qwa _ _ _ _
  ·exact qwh _ _ _ _
  ·exact qyV _ _ _ _ _
 ·exact qyp _ _ _
 ·exact qze _ _ _
 ·exact qvh _ _ _ _
 ·exact qsK _ _
 ·exact qAc _ _ _
 ·exact qra _ _ _ _
 ·exact qyI _ _ _ _
 ·exact qqZ _ _ _ _
 ·split
  ·exact qsZ _ _ _ _
  ·exact qyz _ _ _ _
 ·exact quS _ _ _
 ·exact qyS _ _ _
 ·split
  ·simp only [qi,Option.bind_some,Option.bind_none]
  ·rfl
 ·split
  ·exact qyk _ _ _ _ _
  ·rfl
 ·split
  ·exact qjv _ _ _ _ _
  ·exact qpF _ _ _ _ _
 ·exact qyK _ _
 ·exact qAZ _ _
 ·rfl
abbrev trip(v:V)(ss:List (Nat×O))(mk:Option O):Option (V×List (Nat×O)×Option O):=some (v,ss,mk)
theorem qqq(nid:Nat)(ty:TypeId)(n:Nat)(ps:List (Nat×Operand))(K:V->List (Nat×O)->Option O->Option ρ):qdS C t h nid ty n ps K=(qdS C t h nid ty n ps trip).bind fun p=>K p.1 p.2.1 p.2.2:=by
 unfold qdS
 split
 ·rfl
 ·split
  ·rfl
  ·rw [qi]
   split
   ·rfl
   ·split <;> rfl
theorem qpB(nid:Nat)(ty:TypeId)(l c:V)(K:V->List (Nat×O)->Option O->Option ρ):qeH C nid ty l c K=(qeH C nid ty l c trip).bind fun p=>K p.1 p.2.1 p.2.2:=by
 unfold qeH
 split
 ·rfl
 ·split
  ·rfl
  ·cases l <;> simp only [Option.bind_none]
   cases c <;> simp only [qi,Option.bind_some,Option.bind_none]
theorem qqV(nid:Nat)(ty:TypeId)(l c:V)(t:Kt)(K:V->List (Nat×O)->Option O->Option ρ):qhR C nid ty l c t K=(qhR C nid ty l c t trip).bind fun p=>K p.1 p.2.1 p.2.2:=rfl
theorem qqW(nid:Nat)(ty:TypeId)(l c:V)(K:V->List (Nat×O)->Option O->Option ρ):qfN C nid ty l c K=(qfN C nid ty l c trip).bind fun p=>K p.1 p.2.1 p.2.2:=by
 unfold qfN
 split
 ·exact qqV ..
 ·exact qpB ..
theorem qyg(ty:TypeId)(o ver i off:Nat)(v:V)(K:V->List (Nat×O)->Option O->Option ρ):qtS C h ty o ver i off v K=(qtS C h ty o ver i off v trip).bind fun p=>K p.1 p.2.1 p.2.2:=rfl
theorem qoP(ty:TypeId)(a v:V)(K:V->List (Nat×O)->Option O->Option ρ):qkG C h ty a v K=(qkG C h ty a v trip).bind fun p=>K p.1 p.2.1 p.2.2:=by
 unfold qkG
 split
 ·rfl
 ·rw [qi]
  cases a <;> simp only [Option.bind_none]
  ·split <;> simp only [qi,Option.bind_some,Option.bind_none]
  ·split
   ·rw [qi]
    split <;> rfl
   ·rfl
theorem qyh(ty:TypeId)(a v:V)(K:V->List (Nat×O)->Option O->Option ρ):qrn C h ty a v K=(qrn C h ty a v trip).bind fun p=>K p.1 p.2.1 p.2.2:=by
 unfold qrn
 split
 ·split
  ·exact qyg ..
  ·exact qoP ..
 ·exact qoP ..
theorem qqv(nid:Nat)(ty:TypeId)(x y:V)(K:V->List (Nat×O)->Option O->Option ρ):qnq C h nid ty x y K=(qnq C h nid ty x y trip).bind fun p=>K p.1 p.2.1 p.2.2:=rfl
theorem qob(nid:Nat)(ty:TypeId)(x y:V)(K:V->List (Nat×O)->Option O->Option ρ):qiG C h nid ty x y K=(qiG C h nid ty x y trip).bind fun p=>K p.1 p.2.1 p.2.2:=by
 unfold qiG
 split
 ·rfl
 ·split
  ·rfl
  ·rw [qi]
   split
   ·rfl
   ·cases x <;> simp only [Option.bind_none,qi,Option.bind_some]
    split
    ·rw [qi]
     split
     ·rfl
     ·rw [qi];rfl
    ·rfl
theorem qwG(nid:Nat)(ty:TypeId)(x y:V)(K:V->List (Nat×O)->Option O->Option ρ):qnr C h nid ty x y K=(qnr C h nid ty x y trip).bind fun p=>K p.1 p.2.1 p.2.2:=by
 unfold qnr
 split
 ·exact qqv ..
 ·split
  ·exact qqv ..
  ·exact qob ..
 ·exact qob ..
theorem qAS(ty:TypeId)(x y:V)(K:V->List (Nat×O)->Option O->Option ρ):copyK C h ty x y K=(copyK C h ty x y trip).bind fun p=>K p.1 p.2.1 p.2.2:=by
 unfold copyK
 split
 ·rfl
 ·split
  ·rfl
  ·split
   ·rfl
   ·cases x <;> simp only [Option.bind_none]
    ·split
     ·rw [qi]
      split <;> rfl
     ·rfl
    ·split
     ·rw [qi]
      split <;> rfl
     ·rfl
theorem quA(nid:Nat)(ty:TypeId)(rs:Option V)(K:V->List (Nat×O)->Option O->Option ρ):qjV C nid ty rs K=(qjV C nid ty rs trip).bind fun p=>K p.1 p.2.1 p.2.2:=by
 unfold qjV
 split
 ·split
  ·rfl
  ·split <;> rfl
 ·split <;> rfl
theorem qpx(ty:TypeId)(m k x:V)(K:V->List (Nat×O)->Option O->Option ρ):qgc C h ty m k x K=(qgc C h ty m k x trip).bind fun p=>K p.1 p.2.1 p.2.2:=rfl
theorem qvZ(nid:Nat)(ty:TypeId)(x:V)(K:V->List (Nat×O)->Option O->Option ρ):qpi C h nid ty x K=(qpi C h nid ty x trip).bind fun p=>K p.1 p.2.1 p.2.2:=rfl
theorem qpy(ty:TypeId)(m k x:V)(K:V->List (Nat×O)->Option O->Option ρ):qeG C h ty m k x K=(qeG C h ty m k x trip).bind fun p=>K p.1 p.2.1 p.2.2:=by
 unfold qeG
 split
 ·split
  ·rw [qi]
   congr 1
   split
   ·rfl
   ·split
    ·split
     ·rw [qi]
      congr 1
      split
      ·rfl
      ·rw [qi];rfl
     ·rfl
    ·rfl
  ·rfl
 ·rfl
theorem qkp(ty:TypeId)(m k x:V)(K:V->List (Nat×O)->Option O->Option ρ):qeF C h ty m k x K=(qeF C h ty m k x trip).bind fun p=>K p.1 p.2.1 p.2.2:=by
 unfold qeF
 split
 ·exact qpy _ _ _ _ _
 ·rw [qi]
  congr 1
  split
  ·rfl
  ·split <;> rfl
theorem qsR(ty:TypeId)(m k:V)(K:V->List (Nat×O)->Option O->Option ρ):qgd C h ty m k K=(qgd C h ty m k trip).bind fun p=>K p.1 p.2.1 p.2.2:=by
 unfold qgd
 split
 ·rfl
 ·rw [qi]
  congr 1
  split <;> rfl
theorem qqd(ty:TypeId)(m s x:V)(K:V->List (Nat×O)->Option O->Option ρ):qeK C h ty m s x K=(qeK C h ty m s x trip).bind fun p=>K p.1 p.2.1 p.2.2:=by
 unfold qeK
 split
 ·rfl
 ·rw [qi]
  congr 1
  cases s <;> simp only [Option.bind_none]
  split
  ·rfl
  ·rw [qi];rfl
theorem qyn(nid:Nat)(ty:TypeId)(x:V)(K:V->List (Nat×O)->Option O->Option ρ):qrw C h nid ty x K=(qrw C h nid ty x trip).bind fun p=>K p.1 p.2.1 p.2.2:=by
 unfold qrw
 split <;> rfl
theorem qwA(ty:TypeId)(m k:V)(K:V->List (Nat×O)->Option O->Option ρ):qnf C h ty m k K=(qnf C h ty m k trip).bind fun p=>K p.1 p.2.1 p.2.2:=by
 unfold qnf
 split
 ·rfl
 ·rw [qi]
  congr 1
  split <;> rfl
theorem qyN(ty:TypeId)(m:V)(K:V->List (Nat×O)->Option O->Option ρ):qrZ C h ty m K=(qrZ C h ty m trip).bind fun p=>K p.1 p.2.1 p.2.2:=by
 unfold qrZ
 split
 ·rfl
 ·rw [qi];rfl
theorem qts(ty:TypeId)(m:V)(K:V->List (Nat×O)->Option O->Option ρ):qjG C h ty m K=(qjG C h ty m trip).bind fun p=>K p.1 p.2.1 p.2.2:=rfl
theorem qfq(o:Op)(nid:Nat)(K:V->List (Nat×O)->Option O->Option ρ):evS C o t h nid K=(evS C o t h nid trip).bind fun p=>K p.1 p.2.1 p.2.2:=by
 unfold evS
 split
 ·split <;> rfl
 ·rw [qi];rfl
 ·exact qqq _ _ _ _ _
 ·exact qqW _ _ _ _ _
 ·exact qyh _ _ _ _
 ·exact quA _ _ _ _
 ·split
  ·exact qpx _ _ _ _ _
  ·exact qkp _ _ _ _ _
 ·exact qkp _ _ _ _ _
 ·exact qsR _ _ _ _
 ·exact qqd _ _ _ _ _
 ·split
  ·exact qvZ _ _ _ _
  ·exact qyn _ _ _ _
 ·rw [qi]
  congr 1
  ·split
   ·exact qwA _ _ _ _
   ·rfl
  rw [qi]
  congr 1
  ·split
   ·split
    ·exact qyN _ _ _
    ·exact qts _ _ _
   ·rfl
  split
  ·rw [qi,qi,qwG,qAS];rfl
  ·rfl
 ·rfl
abbrev two(v:V)(h:List O):Option (V×List O):=some (v,h)
theorem qyR(f o ver:Nat)(q:Nst)(d:q.sh.den)(i:Nat)(args:List V)(K:V->List O->Option ρ):qvo C h f o ver q d i args K=(qvo C h f o ver q d i args two).bind fun p=>K p.1 p.2:=rfl
theorem qyP(f:V)(args:List V)(K:V->List O->Option ρ):qvl C h f args K=(qvl C h f args two).bind fun p=>K p.1 p.2:=by
 unfold qvl
 split
 ·split
  ·rename_i p _
   simp only [p.spOk]
   cases p.r <;> rfl
  ·split
   ·exact qyR _ _ _ _ _ _ _ _
   ·rfl
 ·rfl
theorem qyU(o:Op)(K:V->List O->Option ρ)(K':Option ρ)(K2:Option (V×List O))(hk:K'=K2.bind fun p=>K p.1 p.2):qsd C o t h K K'=(qsd C o t h two K2).bind fun p=>K p.1 p.2:=hk
theorem qDL(o:Op)(K:V->List O->Option ρ):evW C o t h K=(evW C o t h two).bind fun p=>K p.1 p.2:=by
 unfold evW
 rw [qi]
 congr 1
 ·rw [qfq o h.length (fun v ss mk=>K v (qai ss h++mk.toList)),qfq o h.length (fun v ss mk=>two v (qai ss h++mk.toList))]
  cases evS C o t h h.length trip <;> rfl
 ·split
  ·exact qyP _ _ _
  split
  ·rw [qi];rfl
  split
  ·rw [qi];rfl
  ·refine qyU _ _ _ _ ?_
   rw [qdx o (fun v=>K v h),qdx o (fun v=>two v h)]
   cases evR C o t h some <;> rfl
theorem qjH(f:V)(args:List V)(K:O->Option ρ):callN C f args K=(callN C f args some).bind K:=by
 unfold callN
 split
 ·rw [qi]
  congr 1
  split
  ·rfl
  ·split
   ·rfl
   ·rename_i p _ _ _ _
    simp only [p.spOk]
    cases p.r with
    | none=>rfl
    | some a=>
     simp only [Option.bind_some]
     split <;> rfl
 ·rfl
theorem qAY(ids:List Nat)(f:V)(args:List V)(K:V->List O->Option ρ):callS C h ids f args K=(callS C h ids f args two).bind fun p=>K p.1 p.2:=by
 unfold callS
 split
 ·rw [qi]
  congr 1
  split
  ·rfl
  ·split
   ·rfl
   ·rename_i p _ _ _ _
    simp only [p.spOk]
    cases p.r with
    | none=>rfl
    | some a=>simp only [Option.bind_some,qi];rfl
 ·rfl
theorem qDN(o:Op)(md:Md)(K:V->List O->Option ρ):evM C o t h md K=(evM C o t h md two).bind fun p=>K p.1 p.2:=by
 cases md with
 | pure=>simp only [evM];rw [qdx o (fun v=>K v h),qdx o (fun v=>two v h)];cases evR C o t [] some <;> rfl
 | rd ids=>simp only [evM];rw [qdx o (fun v=>K v h),qdx o (fun v=>two v h)];cases evR C o t (onlyF (memN ids) 0 h) some <;> rfl
 | wr ids=>
  simp only [evM,qi,Option.bind_none]
  congr 1
  ·refine (qfq o 0 _).trans (Eq.trans ?_ (congrArg (fun z=>Option.bind z fun p:V×List O=>K p.1 p.2) (qfq o 0 _).symm))
   cases evS C o t (onlyF (memN ids) 0 h) 0 trip with
   | none=>rfl
   | some p=>
    obtain⟨v,ss,mk⟩:=p
    cases mk <;> simp only [Option.bind_some,qi,Option.bind_none]
  ·split
   ·exact qAY _ _ _ _
   ·split
    ·split <;> simp only [qi,Option.bind_none] <;> rfl
    ·split <;> simp only [qi,Option.bind_none] <;> rfl
 | new id=>
  simp only [evM,qi,Option.bind_none]
  congr 1
  ·refine (qfq o id _).trans (Eq.trans ?_ (congrArg (fun z=>Option.bind z fun p:V×List O=>K p.1 p.2) (qfq o id _).symm))
   cases evS C o t [] id trip with
   | none=>rfl
   | some p=>
    obtain⟨v,ss,mk⟩:=p
    cases ss <;> cases mk <;> simp only [Option.bind_some,Option.bind_none]
    split <;> simp only [qi,Option.bind_some,Option.bind_none]
  split
  ·refine (qjH _ _ _).trans (Eq.trans ?_ (congrArg (fun z=>Option.bind z fun p:V×List O=>K p.1 p.2) (qjH _ _ _).symm))
   cases callN C _ _ some with
   | none=>rfl
   | some x=>
    simp only [Option.bind_some]
    split <;> simp only [qi,Option.bind_some,Option.bind_none]
  ·rfl
 | full=>exact qDL o K
end
end Go.Abs
namespace Go.Abs
section
variable {ρ : Type} {C : Ctx} {h h' : List O} {t t' : Nat -> V}
def Same(t t':Nat->V)(o:Op):Prop:=∀ i∈qrz o,t i=t' i
theorem qCw{x:Operand}(hx:∀ i,x=.tmp i->t i=t' i):ev t x=ev t' x:=by
 cases x with
 | tmp i=>exact hx i rfl
 | _=>rfl
theorem Same.ev{o:Op}(hs:Same t t' o){x:Operand}(hx:x∈o.operands):ev t x=ev t' x:=
 qCw fun i hi=>hs i (by
  subst hi
  exact zBV.2 ⟨.tmp i,by simpa using hx,rfl⟩)
theorem qkX{place:Nat->Option (Nat×Nat)}:(ps:List (Nat×Operand))->(vs:List V)->(∀ p∈ps,ev t p.2=ev t' p.2)->fillV place t ps vs=fillV place t' ps vs
 | [],vs,_=>rfl
 | (i,x) :: r,vs,hp=>by
  have hx:=hp (i,x) (by simp)
  simp only at hx
  simp only [fillV,hx]
  split
  ·rfl
  ·rw [qkX r _ fun p hm=>hp p (by simp [hm])]
theorem qhQ{xs:List Operand}(hx:∀ x∈xs,ev t x=ev t' x):xs.map (ev t)=xs.map (ev t'):=List.map_congr_left hx
theorem qwD{c:Call}(hx:∀ x∈c.operands,ev t x=ev t' x)(K:V->Option ρ):callR C t h c K=callR C t' h c K:=by
 have hargs:∀ x∈c.args,ev t x=ev t' x:=fun x hm=>hx x (by simp [Call.operands,hm])
 have hm:=qhQ (t:=t) (t':=t') (xs:=c.args.toList) (fun x hm=>hargs x (by simpa using hm))
 unfold callR
 split
 ·split
  ·split
   ·rename_i x ty e _
    rw [hargs x (zAp e)]
   ·rfl
  ·rw [hm]
  ·rw [hm]
  ·rfl
 ·have:callT C.T t (.call c)=callT C.T t' (.call c):=by
   unfold callT
   simp only
   split
   ·rename_i f hf
    rw [hm,hx f (by simp [Call.operands,hf])]
   ·rename_i r nm hf
    rw [hm,hx r (by simp [Call.operands,hf])]
   ·rfl
  rw [this]
theorem qqc{o:Op}(hs:Same t t' o)(K:V->Option ρ):evR C o t h K=evR C o t' h K:=by
 have hev:∀ x∈o.operands,ev t x=ev t' x:=fun x hx=>hs.ev hx
 cases o <;> simp only [Op.operands] at hev <;> simp only [evR]
 case build ty ps=>
  unfold qqr
  have:=fun place vs=>qkX (place:=place) ps.toList vs (fun p hp=>hev p.2 (by simp;exact⟨p.1,by simpa using hp⟩))
  simp only [this]
 case makeFunc fn first caps=>
  rw [qhQ (xs:=caps.toList) fun x hx=>hev x (by simp;exact .inr (by simpa using hx)),qhQ (xs:=first.toList) fun x hx=>hev x (by simp;exact .inl (by simpa using hx))]
 case slice ty x lo hi mx=>
  have h1:=hev x (by simp)
  have h2:∀ d (K:Int->Option ρ),qfZ t lo d K=qfZ t' lo d K:=fun d K=>by
   cases lo with
   | none=>rfl
   | some y=>simp only [qfZ,hev y (by simp)]
  have h3:∀ d (K:Int->Option ρ),qfZ t hi d K=qfZ t' hi d K:=fun d K=>by
   cases hi with
   | none=>rfl
   | some y=>simp only [qfZ,hev y (by simp)]
  cases mx <;> simp only [qoT,qkM,h1,h2,h3]
 case call c=>exact qwD (by simpa using hev) K
 all_goals (first | rfl | (simp_all;done))
theorem qqa{o:Op}(hs:Same t t' o)(nid:Nat)(K:V->List (Nat×O)->Option O->Option ρ):evS C o t h nid K=evS C o t' h nid K:=by
 have hev:∀ x∈o.operands,ev t x=ev t' x:=fun x hx=>hs.ev hx
 cases o <;> simp only [Op.operands] at hev <;> simp only [evS]
 case buildSlice ty n ps=>
  unfold qdS
  have:=fun place vs=>qkX (place:=place) ps.toList vs (fun p hp=>hev p.2 (by simp;exact⟨p.1,by simpa using hp⟩))
  simp only [this]
 case call c=>
  have hargs:∀ x∈c.args,ev t x=ev t' x:=fun x hm=>hev x (by simp [Call.operands,hm])
  congr 1
  ·split
   ·rename_i x y ty e1 e2 _
    rw [hargs x (zAp e1),hargs y (zAp e2)]
   ·rfl
  congr 1
  ·split
   ·rename_i x ty e1 _
    rw [hargs x (zAp e1)]
   ·rfl
  split
  ·rename_i x y ty ty' e1 e2 _ _
   rw [hargs x (zAp e1),hargs y (zAp e2)]
  ·rfl
 case makeMap ty rs=>
  cases rs with
  | none=>rfl
  | some x=>simp only [Option.map_some,hev x (by simp)]
 all_goals (first | rfl | (simp_all;done))
theorem qlb{T:List (Nat×TE)}{o:Op}(hs:Same t t' o):callT T t o=callT T t' o:=by
 unfold callT
 split
 ·rename_i c
  have hc:∀ x∈c.operands,ev t x=ev t' x:=fun x hx=>hs.ev (by simpa [Op.operands] using hx)
  have hm:=qhQ (t:=t) (t':=t') (xs:=c.args.toList) (fun x hm=>hc x (by simp [Call.operands];exact .inr (by simpa using hm)))
  split
  ·rename_i f hf
   rw [hm,hc f (by simp [Call.operands,hf])]
  ·rename_i r nm hf
   rw [hm,hc r (by simp [Call.operands,hf])]
  ·rfl
 ·rfl
theorem qvs{o:Op}(hs:Same t t' o)(K:V->List O->Option ρ)(K':Option ρ):qsd C o t h K K'=qsd C o t' h K K':=rfl
theorem qoO{o:Op}(hs:Same t t' o)(nid:Nat):takeO C o t h nid=takeO C o t' h nid:=by
 cases o with
 | lookup ty x i ok=>
  have e1:=hs.ev (x:=x) (by simp [Op.operands])
  have e2:=hs.ev (x:=i) (by simp [Op.operands])
  cases ok <;> simp only [takeO,e1,e2]
 | load ty x=>
  have e1:=hs.ev (x:=x) (by simp [Op.operands])
  simp only [takeO,e1]
 | _=>rfl
theorem qqk{o:Op}(hs:Same t t' o):dropO C o t h=dropO C o t' h:=rfl
theorem qAF{o:Op}(hs:Same t t' o)(md:Md)(K:V->List O->Option ρ):evM C o t h md K=evM C o t' h md K:=by
 cases md <;> simp only [evM]
 ·exact qqc hs _
 ·exact qqc hs _
 ·rw [qqa hs,qlb hs,qoO hs,qqk hs]
 ·rw [qqa hs,qlb hs]
 ·unfold evW
  rw [qqa hs,qqc hs,qlb hs,qvs hs,qoO hs,qqk hs]
def Md.sees:Md->Nat->Prop
 | .pure,_=>False
 | .rd ids,i=>memN ids i=true
 | .wr ids,i=>memN ids i=true
 | .new id,i=>i=id
 | .full,_=>True
def Md.foot:Md->Nat->Prop
 | .pure,_=>False
 | .rd _,_=>False
 | .wr ids,i=>memN ids i=true
 | .new id,i=>i=id
 | .full,_=>True
def Md.isFull:Md->Bool
 | .full=>true
 | _=>false
def Md.isPure:Md->Bool
 | .pure=>true
 | _=>false
structure Agree (md:Md) (h h':List O):Prop where
 len:md.isPure=false->h.length=h'.length
 get:∀ i,md.sees i->getO h i=getO h' i
theorem qlQ{h h':List O}(hl:h.length=h'.length)(hg:∀ i,getO h i=getO h' i):h=h':=by
 apply List.ext_getElem hl
 intro i h1 h2
 have:=hg i
 simpa [getO,List.getD,h1,h2] using this
theorem qjq(p:Nat->Bool):(i:Nat)->(h:List O)->(onlyF p i h).length=h.length
 | _,[]=>rfl
 | i,x :: h=>by simp [onlyF,qjq p (i+1) h]
theorem qkP{ids:List Nat}(hl:h.length=h'.length)(hg:∀ i,memN ids i=true->getO h i=getO h' i):onlyF (memN ids) 0 h=onlyF (memN ids) 0 h':=by
 apply qlQ
 ·rw [qjq,qjq,hl]
 ·intro i
  rw [qfi,qfi,Nat.zero_add]
  split
  ·exact hg i ‹_›
  ·rfl
theorem qhC:(ss:List (Nat×O))->(h:List O)->(i:Nat)->(∀ p∈ss,p.1≠i)->getO (qai ss h) i=getO h i
 | [],h,i,_=>rfl
 | (j,x) :: r,h,i,hp=>by
  simp only [qai]
  rw [qhC r _ i fun p hm=>hp p (by simp [hm])]
  have:=hp (j,x) (by simp)
  simp only at this
  simp [getO,List.getD,zAz this]
theorem qer{h h':List O}(hl:h.length=h'.length){i j:Nat}{x:O}(hg:getO h i=getO h' i):getO (h.set j x) i=getO (h'.set j x) i:=by
 simp only [getO,List.getD,zAc] at hg ⊢
 rw [hl]
 split
 ·rfl
 ·exact hg
theorem qfp:(ss:List (Nat×O)) -> {h h':List O}->h.length=h'.length->(i:Nat)->getO h i=getO h' i->getO (qai ss h) i=getO (qai ss h') i
 | [],h,h',_,i,hg=>hg
 | (j,x) :: r,h,h',hl,i,hg=>qfp r (by simp [hl]) i (qer hl hg)
theorem qsb{h:List O}{ids:List Nat}{f:V}{args:List V}{v:V}{H:List O}(he:callS C h ids f args two=some (v,H)) :
  ∃ g caps p u a,f=.clo g caps/\qbs ids (argsF g args caps)=true/\clsd ids (onlyF (memN ids) 0 h)=true/\C.G (tgtF g) (argsF g args caps) (onlyF (memN ids) 0 h)=some p/\p.h=some u/\p.r=some a /\
   (u a (onlyF (memN ids) 0 h)).length=h.length/\qkQ (memN ids) 0 (u a (onlyF (memN ids) 0 h))=true/\v=p.v a/\H=mixF (memN ids) 0 (u a (onlyF (memN ids) 0 h)) h:=by
 unfold callS at he
 split at he
 ·rename_i g caps
  obtain⟨hc,he⟩:=qc he
  rw [zA] at hc
  split at he
  ·cases he
  ·rename_i p hp
   split at he
   ·cases he
   ·rename_i u hu
    cases hr:p.r with
    | none=>rw [hr] at he;cases he
    | some a=>
     rw [hr] at he
     simp only [Option.bind_some,p.spOk] at he
     obtain⟨hl,he⟩:=qc he
     rw [zA] at hl
     cases he
     exact⟨g,caps,p,u,a,rfl,hc.1,hc.2,hp,hu,hr,zB hl.1,hl.2,rfl,rfl⟩
 ·cases he
theorem qxP{o:Op}{md:Md}{v:V}{H:List O}(he:evM C o t h md two=some (v,H)):(∀ i,¬ md.foot i->getO H i=getO h i)/\(md.isFull=false->H.length=h.length):=by
 cases md with
 | pure=>
  simp only [evM] at he
  rw [qdx o] at he
  obtain⟨u,_,he⟩:=zR.1 he
  cases he
  exact⟨fun _ _=>rfl,fun _=>rfl⟩
 | rd ids=>
  simp only [evM] at he
  rw [qdx o] at he
  obtain⟨u,_,he⟩:=zR.1 he
  cases he
  exact⟨fun _ _=>rfl,fun _=>rfl⟩
 | wr ids=>
  simp only [evM] at he
  cases hS:isS o with
  | false=>
   rw [hS,cond_false] at he
   split at he
   ·obtain⟨g,caps,p,u,a,-,-,-,-,-,-,hl,-,-,rfl⟩:=qsb he
    exact⟨fun i hn=>by rw [qlD _ _ _ _ hl,Nat.zero_add,zL (show ¬ memN ids i=true from hn)],fun _=>qpr _ _ _ _ hl⟩
   ·split at he
    ·rename_i p hp
     split at he
     ·rename_i hg
      obtain⟨hi,he⟩:=qc he
      simp only [zA] at hi
      obtain⟨_,he⟩:=qc he
      cases he
      refine⟨fun i hn=>?_,fun _=>by rw [zBK,qbo]⟩
      have hne:ids.headD 0≠i:=fun e=>hn (by rw [<- e];exact hi.1)
      have e1:getO ((qai p.2.1 h).set (ids.headD 0) p.2.2) i=getO (qai p.2.1 h) i:=by unfold getO;rw [zK,zK,zAz hne]
      rw [e1]
      refine qhC p.2.1 h i fun q hq e=>hn ?_
      have:=zm.1 hi.2.2 q hq
      rw [e] at this
      exact this
     ·cases he
    ·split at he
     ·rename_i p hp
      obtain⟨hi,he⟩:=qc he
      cases he
      refine⟨fun i hn=>?_,fun _=>by rw [zBK]⟩
      rw [zA] at hi
      have hne:p.2.2.1≠i:=fun e=>hn (by rw [<- e];exact hi.1)
      unfold getO;rw [zK,zK,zAz hne]
     ·cases he
  | true=>
  rw [hS,cond_true] at he
  rw [qfq o] at he
  obtain⟨⟨u,ss,mk⟩,_,he⟩:=zR.1 he
  cases mk with
  | some x=>cases he
  | none=>
   simp only at he
   obtain⟨hi,he⟩:=qc he
   cases he
   refine⟨fun i hn=>qhC ss h i fun p hp e=>hn ?_,fun _=>qbo _ _⟩
   have:=zm.1 hi p hp
   rw [e] at this
   exact this
 | new id=>
  simp only [evM] at he
  cases hS:isS o with
  | true=>
   rw [hS,cond_true,qfq o] at he
   obtain⟨⟨u,ss,mk⟩,_,he⟩:=zR.1 he
   cases ss with
   | cons p ss=>cases he
   | nil=>
    cases mk with
    | none=>cases he
    | some x=>
     simp only at he
     cases hg:getO h id with
     | none=>
      rw [hg] at he
      simp only at he
      obtain⟨_,he⟩:=qc he
      cases he
      refine⟨fun i hn=>?_,fun _=>by simp⟩
      have hn:id≠i:=fun e=>hn e.symm
      simp [getO,List.getD,zAz hn]
     | cells vs=>rw [hg] at he;cases he
     | nst _ _ _=>rw [hg] at he;cases he
     | kds _ _ _ _ _=>rw [hg] at he;cases he
     | gone=>rw [hg] at he;cases he
     | oth fz q d=>rw [hg] at he;cases he
     | row fz ver e s xs=>rw [hg] at he;cases he
  | false=>
   rw [hS,cond_false] at he
   split at he
   ·rw [qjH] at he
    obtain⟨x,_,he⟩:=zR.1 he
    cases hg:getO h id with
    | none=>
     rw [hg] at he
     simp only at he
     obtain⟨_,he⟩:=qc he
     cases he
     refine⟨fun i hn=>?_,fun _=>by simp⟩
     have hn:id≠i:=fun e=>hn e.symm
     simp [getO,List.getD,zAz hn]
    | cells vs=>rw [hg] at he;cases he
    | nst _ _ _=>rw [hg] at he;cases he
    | kds _ _ _ _ _=>rw [hg] at he;cases he
    | gone=>rw [hg] at he;cases he
    | oth fz q d=>rw [hg] at he;cases he
    | row fz ver e s xs=>rw [hg] at he;cases he
   ·cases he
 | full=>exact⟨fun i hn=>absurd trivial hn,fun hf=>by cases hf⟩
theorem qAE{o:Op}{md:Md}{v:V}{H:List O}(ha:Agree md h h')(he:evM C o t h md two=some (v,H)) :
  ∃ H',evM C o t h' md two=some (v,H')/\∀ i,md.foot i->getO H i=getO H' i:=by
 cases md with
 | pure=>
  simp only [evM] at he ⊢
  rw [qdx o] at he
  obtain⟨u,h1,he⟩:=zR.1 he
  cases he
  refine⟨h',?_,fun i hf=>hf.elim⟩
  rw [qdx o,h1];rfl
 | rd ids=>
  simp only [evM] at he ⊢
  rw [qdx o] at he
  obtain⟨u,h1,he⟩:=zR.1 he
  cases he
  refine⟨h',?_,fun i hf=>hf.elim⟩
  rw [qdx o,<- qkP (ha.len rfl) ha.get,h1];rfl
 | wr ids=>
  simp only [evM] at he ⊢
  have hof:=qkP (ids:=ids) (ha.len rfl) ha.get
  cases hS:isS o with
  | false=>
   rw [hS,cond_false] at he
   rw [cond_false]
   split at he
   ·rename_i f args hc
    obtain⟨g,caps,p,u,a,e1,e2,e3,e4,e5,e6,hl,e7,rfl,rfl⟩:=qsb he
    have hl':(u a (onlyF (memN ids) 0 h')).length=h'.length:=by rw [<- hof,hl];exact ha.len rfl
    refine⟨mixF (memN ids) 0 (u a (onlyF (memN ids) 0 h')) h',?_,fun i hf=>?_⟩
    ·simp only [callS,e1,e2,<- hof,e3,Bool.and_self,cond_true,e4,e5,e6,Option.bind_some,p.spOk,e7]
     rw [show Nat.beq (u a (onlyF (memN ids) 0 h)).length h'.length=true by rw [hof,hl'];exact Nat.beq_refl _];rfl
    ·rw [qlD _ _ _ _ hl,qlD _ _ _ _ hl',Nat.zero_add,zJ (show memN ids i=true from hf),zJ (show memN ids i=true from hf),hof]
   ·rw [<- hof]
    split at he
    ·rename_i p hp
     split at he
     ·rename_i hg
      obtain⟨hi,he⟩:=qc he
      have hi':=hi
      simp only [zA] at hi'
      obtain⟨hgo,he⟩:=qc he
      cases he
      have hg':getO h' (ids.headD 0)=.none:=by rw [<- ha.get _ hi'.1,hg]
      refine⟨(qai p.2.1 h').set (ids.headD 0) p.2.2,?_,fun i hf=>qer (by rw [qbo,qbo];exact ha.len rfl) (qfp p.2.1 (ha.len rfl) i (ha.get i hf))⟩
      simp only [hg',<- ha.len rfl,hi,hgo,cond_true]
     ·cases he
    ·split at he
     ·rename_i p hp
      obtain⟨hi,he⟩:=qc he
      cases he
      exact⟨h'.set p.2.2.1 p.2.2.2,by simp only [hi,cond_true],fun i hf=>qer (ha.len rfl) (ha.get i hf)⟩
     ·cases he
  | true=>
  rw [hS,cond_true] at he
  rw [qfq o] at he
  obtain⟨⟨u,ss,mk⟩,h1,he⟩:=zR.1 he
  cases mk with
  | some x=>cases he
  | none=>
   simp only at he
   obtain⟨hi,he⟩:=qc he
   cases he
   refine⟨qai ss h',?_,fun i hf=>qfp ss (ha.len rfl) i (ha.get i hf)⟩
   rw [cond_true,qfq o,<- qkP (ha.len rfl) ha.get,h1]
   simp only [Option.bind_some,hi,cond_true]
 | new id=>
  simp only [evM] at he ⊢
  cases hS:isS o with
  | true=>
   rw [hS,cond_true,qfq o] at he
   obtain⟨⟨u,ss,mk⟩,h1,he⟩:=zR.1 he
   cases ss with
   | cons p ss=>cases he
   | nil=>
    cases mk with
    | none=>cases he
    | some x=>
     simp only at he
     cases hg:getO h id with
     | none=>
      rw [hg] at he
      simp only at he
      obtain⟨hlt,he⟩:=qc he
      cases he
      have hg':getO h' id=.none:=by rw [<- ha.get id rfl,hg]
      refine⟨h'.set id x,?_,fun i hf=>?_⟩
      ·rw [cond_true,qfq o,h1]
       simp only [Option.bind_some,hg',<- ha.len rfl,hlt,cond_true]
      ·exact qer (ha.len rfl) (ha.get i hf)
     | cells vs=>rw [hg] at he;cases he
     | nst _ _ _=>rw [hg] at he;cases he
     | kds _ _ _ _ _=>rw [hg] at he;cases he
     | gone=>rw [hg] at he;cases he
     | oth fz q d=>rw [hg] at he;cases he
     | row fz ver e s xs=>rw [hg] at he;cases he
  | false=>
   rw [hS,cond_false] at he
   rw [cond_false]
   split at he
   ·rename_i f args hc
    rw [qjH] at he
    obtain⟨x,h1,he⟩:=zR.1 he
    cases hg:getO h id with
    | none=>
     rw [hg] at he
     simp only at he
     obtain⟨hlt,he⟩:=qc he
     cases he
     have hg':getO h' id=.none:=by rw [<- ha.get id rfl,hg]
     refine⟨h'.set id x,?_,fun i hf=>?_⟩
     ·rw [qjH,h1]
      simp only [Option.bind_some,hg',<- ha.len rfl,hlt,cond_true]
     ·exact qer (ha.len rfl) (ha.get i hf)
    | cells vs=>rw [hg] at he;cases he
    | nst _ _ _=>rw [hg] at he;cases he
    | kds _ _ _ _ _=>rw [hg] at he;cases he
    | gone=>rw [hg] at he;cases he
    | oth fz q d=>rw [hg] at he;cases he
    | row fz ver e s xs=>rw [hg] at he;cases he
   ·cases he
 | full=>
  have:h=h':=qlQ (ha.len rfl) fun i=>ha.get i trivial
  subst this
  exact⟨H,he,fun _ _=>rfl⟩
theorem qlF{a b:List Nat}(hd:disj a b=true){i:Nat}(ha:memN a i=true)(hb:memN b i=true):False:=by
 unfold memN at ha
 obtain⟨x,hx,he⟩:=zBi.1 ha
 have he:=zB he
 subst he
 have:=zm.1 hd i hx
 simp [hb] at this
theorem qzX{a b:Md}(hm:mdOk a b=true):(∀ i,a.foot i->¬ b.sees i)/\(∀ i,b.foot i->¬ a.sees i)/\(a.isFull=true->b.isPure=true)/\(b.isFull=true->a.isPure=true):=by
 have hne:∀ {ids:List Nat} {j:Nat},(!memN ids j)=true->memN ids j=true->False:=fun {ids j} h1 h2=>by simp [h2] at h1
 cases a <;> cases b <;> simp only [mdOk,zA,zAC] at hm <;>
  refine⟨fun i hf hs=>?_,fun i hf hs=>?_,fun hh=>?_,fun hh=>?_⟩ <;>
  simp only [Md.foot,Md.sees,Md.isFull,Md.isPure,zAC] at * <;>
  first
   | (subst hf;subst hs;simp at hm;done)
   | (subst hf;exact hne hm hs)
   | (subst hs;exact hne hm hf)
   | exact qlF hm hf hs
   | exact qlF hm hs hf
   | exact qlF hm.1 hf hs
   | exact qlF hm.1 hs hf
end
end Go.Abs
namespace Go.Abs
section
variable {ρ : Type} {C : Ctx} {all : List Oper}
abbrev S:=(Nat->V)×List O
def upd(dst:Option Tmp)(v:V)(t:Nat->V):Nat->V:=
 match dst with
 | none=>t
 | some d=>fun i=>bif Nat.beq d i then v else t i
def okDst(n:Nat):Option Tmp->Bool
 | none=>true
 | some d=>Nat.blt d n
def actA(C:Ctx)(all:List Oper)(o:Oper)(md:Md)(t:Nat->V)(h:List O):Option (V×List O):=
 match o.guard with
 | none=>evM C o.op t h md two
 | some (j,want)=>
  match dstOf all j with
  | none=>none
  | some d=>
   match t d with
   | .bool b=>if b=want then evM C o.op t h md two else some (.undef,h)
   | .undef=>some (.undef,h)
   | _=>none
def stepA(C:Ctx)(all:List Oper)(x:Oper×Md)(s:S):Option S:=
 bif okDst C.n x.1.dst then (actA C all x.1 x.2 s.1 s.2).map fun p=>(upd x.1.dst p.1 s.1,p.2) else none
def runA(C:Ctx)(all:List Oper):List (Oper×Md)->S->Option S
 | [],s=>some s
 | x :: r,s=>(stepA C all x s).bind (runA C all r)
def zipM:List Oper->List Md->List (Oper×Md)
 | [],_=>[]
 | o :: r,mds=>(o,mds.headD .full) :: zipM r mds.tail
theorem quD(d:Nat)(v:V)(t:Slots):look ((d,v) :: t)=upd (some d) v (look t):=rfl
theorem upd_same{t:Nat->V}{d:Nat}{v:V}(h:t d=v):upd (some d) v t=t:=by
 funext i
 simp only [upd]
 cases hb:Nat.beq d i with
 | false=>rfl
 | true=>have:=zB hb;subst this;exact h.symm
theorem qsE{n:Nat}{dst:Option Tmp}{v:V}{t:Slots}{K:Slots->Option ρ}{res:ρ}(h:putD n dst v t K=some res):okDst n dst=true/\∃ t',look t'=upd dst v (look t)/\K t'=some res:=by
 cases dst with
 | none=>exact⟨rfl,t,rfl,h⟩
 | some d=>
  simp only [putD] at h
  obtain⟨h1,h2⟩:=qc h
  exact⟨h1,_,quD d v t,h2⟩
theorem qeV:(r:List Oper)->(mds:List Md)->(t:Slots)->(h:List O)->(K:Slots->List O->Option ρ) -> {res:ρ}->opsK C all r mds t h K=some res ->
  ∃ t' h',runA C all (zipM r mds) (look t,h)=some (look t',h')/\K t' h'=some res
 | [],mds,t,h,K,res,hk=>⟨t,h,rfl,hk⟩
 | o :: r,mds,t,h,K,res,hk=>by
  have fin:∀ {v:V} {t1:Slots} {H:List O},look t1=look t->actA C all o (mds.headD .full) (look t) h=some (v,H) ->
    putD C.n o.dst v t1 (fun t=>opsK C all r mds.tail t H K)=some res->∃ t' h',runA C all (zipM (o :: r) mds) (look t,h)=some (look t',h')/\K t' h'=some res:=by
   intro v t1 H e1 e2 e3
   obtain⟨h1,t2,h2,h3⟩:=qsE e3
   obtain⟨t3,h4,h5,h6⟩:=qeV r mds.tail t2 H K h3
   refine⟨t3,h4,?_,h6⟩
   simp only [zipM,runA,stepA,h1,cond_true,e2,Option.map_some,Option.bind_some]
   rw [<- e1,<- h2];exact h5
  have evd:∀ {t1:Slots},look t1=look t->evM C o.op (look t1) h (mds.headD .full) (fun v h=>putD C.n o.dst v t1 fun t=>opsK C all r mds.tail t h K)=some res ->
    ∃ v H,evM C o.op (look t) h (mds.headD .full) two=some (v,H)/\putD C.n o.dst v t1 (fun t=>opsK C all r mds.tail t H K)=some res:=by
   intro t1 e1 e2
   rw [qDN] at e2
   obtain⟨⟨v,H⟩,h1,h2⟩:=zR.1 e2
   rw [e1] at h1
   exact⟨v,H,h1,h2⟩
  simp only [opsK] at hk
  cases hg:o.guard with
  | none=>
   rw [hg] at hk
   simp only at hk
   obtain⟨v,H,h1,h2⟩:=evd rfl hk
   exact fin rfl (by simp only [actA,hg];exact h1) h2
  | some gw=>
   obtain⟨j,want⟩:=gw
   rw [hg] at hk
   simp only at hk
   cases hd:dstOf all j with
   | none=>rw [hd] at hk;cases hk
   | some d=>
    rw [hd] at hk
    simp only at hk
    cases ht:look t d with
    | bool b=>
     rw [ht] at hk
     simp only at hk
     have hup:look ((d,.bool b) :: t)=look t:=by rw [quD,upd_same ht]
     cases b with
     | true=>
      simp only [cond_true] at hk
      cases want with
      | true=>
       simp only [cond_true] at hk
       obtain⟨v,H,h1,h2⟩:=evd hup hk
       exact fin hup (by simp only [actA,hg,hd,ht,if_true];exact h1) h2
      | false=>
       simp only [cond_false] at hk
       exact fin hup (by simp [actA,hg,hd,ht]) hk
     | false=>
      simp only [cond_false] at hk
      cases want with
      | true=>
       simp only [cond_true] at hk
       exact fin hup (by simp [actA,hg,hd,ht]) hk
      | false=>
       simp only [cond_false] at hk
       obtain⟨v,H,h1,h2⟩:=evd hup hk
       exact fin hup (by simp only [actA,hg,hd,ht,if_true];exact h1) h2
    | undef=>
     rw [ht] at hk
     exact fin rfl (by simp [actA,hg,hd,ht]) hk
    | _=>rw [ht] at hk;cases hk
theorem qke{o:Oper}{md:Md}{t t':Nat->V}{h:List O}(hs:∀ i∈reads all o,t i=t' i):actA C all o md t h=actA C all o md t' h:=by
 have h1:Same t t' o.op:=fun i hi=>hs i (zf _ hi)
 have h2:=qAF (C:=C) (h:=h) h1 md two
 unfold actA
 cases hg:o.guard with
 | none=>exact h2
 | some gw=>
  obtain⟨j,want⟩:=gw
  simp only
  cases hd:dstOf all j with
  | none=>rfl
  | some d=>
   have:=hs d (zo _ (by simp [qxH,hg,hd]))
   simp only [this,h2]
theorem qpS{md:Md}{i:Nat}(h:md.foot i):md.sees i:=by
 cases md <;> simp_all [Md.foot,Md.sees]
theorem qmo{o:Oper}{md:Md}{t:Nat->V}{h:List O}{v:V}{H:List O}(he:actA C all o md t h=some (v,H)):(∀ i,¬ md.foot i->getO H i=getO h i)/\(md.isFull=false->H.length=h.length):=by
 unfold actA at he
 split at he
 ·exact qxP he
 ·split at he
  ·cases he
  ·split at he
   ·split at he
    ·exact qxP he
    ·cases he;exact⟨fun _ _=>rfl,fun _=>rfl⟩
   ·cases he;exact⟨fun _ _=>rfl,fun _=>rfl⟩
   ·cases he
theorem qxZ{o:Oper}{md:Md}{t:Nat->V}{h h':List O}{v:V}{H:List O}(ha:Agree md h h')(he:actA C all o md t h=some (v,H)) :
  ∃ H',actA C all o md t h'=some (v,H')/\∀ i,md.foot i->getO H i=getO H' i:=by
 unfold actA at he ⊢
 split at he
 ·exact qAE ha he
 ·split at he
  ·cases he
  ·split at he
   ·split at he
    ·rename_i hb;subst hb
     simp only [if_true]
     exact qAE ha he
    ·rename_i hb
     cases he;exact⟨h',by simp [hb],fun i hf=>ha.get i (qpS hf)⟩
   ·cases he;exact⟨h',rfl,fun i hf=>ha.get i (qpS hf)⟩
   ·cases he
theorem qgV{l:List Nat}{i:Nat}:memN l i=true↔i∈l:=by
 unfold memN
 rw [zBi]
 exact⟨fun ⟨x,h1,h2⟩=>by rw [zB h2];exact h1,fun h=>⟨i,h,Nat.beq_refl i⟩⟩
theorem qlh{dst:Option Tmp}{l:List Nat}(h:notIn dst l=true){v:V}{t:Nat->V}:∀ i∈l,t i=upd dst v t i:=by
 intro i hi
 cases dst with
 | none=>rfl
 | some d=>
  simp only [upd]
  cases hb:Nat.beq d i with
  | false=>rfl
  | true=>
   have:=zB hb;subst this
   simp only [notIn,qgV.2 hi] at h;cases h
theorem qwS{a b:Option Tmp}(h:qzd a b=true){u v:V}{t:Nat->V}:upd a u (upd b v t)=upd b v (upd a u t):=by
 cases a with
 | none=>rfl
 | some x=>
  cases b with
  | none=>rfl
  | some y=>
   funext i
   simp only [upd]
   cases hx:Nat.beq x i with
   | false=>rfl
   | true=>
    cases hy:Nat.beq y i with
    | false=>rfl
    | true=>
     have e1:=zB hx;have e2:=zB hy
     subst e1;subst e2
     simp [qzd,Nat.beq_refl] at h
theorem qeC{x:Oper×Md}{s s':S}(h:stepA C all x s=some s'):okDst C.n x.1.dst=true/\∃ v H,actA C all x.1 x.2 s.1 s.2=some (v,H)/\s'=(upd x.1.dst v s.1,H):=by
 unfold stepA at h
 obtain⟨h1,h2⟩:=qc h
 obtain⟨⟨v,H⟩,h3,h4⟩:=zw.1 h2
 exact⟨h1,v,H,h3,h4.symm⟩
theorem qjY{k v:Sh}{x:k.den}{es:Ents k v}{e:Int×(k.den×v.den)}:entOf k v x (es ++ [e])=match entOf k v x es with | some r=>some r | none=>bif eqD k x e.2.1 then some e else none:=by
 induction es with
 | nil=>rfl
 | cons f r ih=>
  simp only [List.cons_append,entOf]
  cases eqD k x f.2.1 with
  | true=>rfl
  | false=>simp only [cond_false];exact ih
theorem qzR{k v:Sh}(d:Mp k v)(y x:k.den):mpGet k v (mpEnt k v d y) x=mpGet k v d x:=by
 unfold mpEnt
 cases mpHas k v d y with
 | true=>rfl
 | false=>
  simp only [cond_false,mpGet,qjY]
  cases entOf k v x d.2 with
  | some r=>rfl
  | none=>
   simp only
   cases eqD k x y <;> rfl
theorem qzY{T:List (Nat×TE)}{h:List O}{ids:List Nat}{oi:Nat}{q:Oth}{d:q.sh.den}{y:q.k.den}(eo:getO h oi=.oth false q d){ty:TypeId}{u:V}{ob:Nat}{fz:Bool}{p:Σ q:Oth,q.sh.den}
  (hat:mapAt T (onlyF (memN ids) 0 h) ty u=some (ob,fz,p)) :
  ∃ fz' d',mapAt T (onlyF (memN ids) 0 (h.set oi (.oth false q (mpEnt q.k q.v d y)))) ty u=some (ob,fz',⟨p.1,d'⟩)/\∀ x,mpGet p.1.k p.1.v d' x=mpGet p.1.k p.1.v p.2 x:=by
 have hlt:=qae (h:=h) (i:=oi) (by rw [eo];simp)
 unfold mapAt at hat ⊢
 cases hq:mapTy T ty with
 | none=>rw [hq] at hat;cases hat
 | some q0=>
  rw [hq] at hat
  simp only at hat ⊢
  cases u with
  | ptr o1 off=>
   simp only at hat ⊢
   rw [qfi,Nat.zero_add] at hat ⊢
   cases hmem:memN ids o1 with
   | false=>rw [hmem] at hat;simp at hat
   | true=>
    rw [hmem] at hat
    simp only [if_true] at hat ⊢
    rw [qad hlt]
    by_cases e:oi=o1
    ·subst e
     rw [zJ rfl]
     rw [eo] at hat
     simp only at hat ⊢
     obtain⟨c1,c2⟩:=qc hat
     simp only [zD,zN] at c2
     obtain⟨rfl,rfl,rfl⟩:=c2
     rw [c1]
     exact⟨_,_,rfl,fun x=>qzR d y x⟩
    ·rw [zL e]
     exact⟨fz,p.2,hat,fun x=>rfl⟩
  | _=>cases hat
theorem qzJ{T:List (Nat×TE)}{h:List O}{ids:List Nat}{oi:Nat}{q:Oth}{d d':q.sh.den}(eo:getO h oi=.oth false q d){ty:TypeId}{u:V}{p:Nat×Nat×(Σ q:Nst,q.sh.den)}
  (hat:nstAt T (onlyF (memN ids) 0 h) ty u=some p):nstAt T (onlyF (memN ids) 0 (h.set oi (.oth false q d'))) ty u=some p:=by
 have hlt:=qae (h:=h) (i:=oi) (by rw [eo];simp)
 unfold nstAt at hat ⊢
 cases hq:qnC T ty with
 | none=>rw [hq] at hat;cases hat
 | some q0=>
  rw [hq] at hat
  cases u with
  | ptr o1 off=>
   simp only at hat ⊢
   rw [qfi,Nat.zero_add] at hat ⊢
   cases hmem:memN ids o1 with
   | false=>rw [hmem] at hat;simp at hat
   | true=>
    rw [hmem] at hat
    simp only [if_true] at hat ⊢
    rw [qad hlt]
    by_cases e:oi=o1
    ·subst e;rw [eo] at hat;cases hat
    ·rw [zL e];exact hat
  | _=>cases hat
theorem qtk{x y:Oper×Md}(hsw:qwv x.1 x.2 y.1 y.2=true){t:Nat->V}{h H1 H2:List O}{va vb:V}(e1:actA C all x.1 x.2 t h=some (va,H1))(e2:actA C all y.1 y.2 t H1=some (vb,H2)) :
  actA C all y.1 y.2 t h=some (vb,H2)/\actA C all x.1 x.2 t H2=some (va,H2):=by
 obtain⟨a,ma⟩:=x
 obtain⟨b,mb⟩:=y
 unfold qwv at hsw
 simp only at hsw e1 e2 ⊢
 split at hsw
 case h_2=>cases hsw
 rename_i ty m k hop
 split at hsw
 ·cases hsw
 rename_i hga
 split at hsw
 case h_2=>cases hsw
 rename_i ty' m' k' hop'
 split at hsw
 ·cases hsw
 rename_i hgb
 split at hsw
 case h_2=>cases hsw
 rename_i ids
 split at hsw
 case h_2=>cases hsw
 rename_i ids'
 unfold actA at e1 e2 ⊢
 rw [hga] at e1 ⊢
 rw [hgb] at e2 ⊢
 simp only [evM,hop,hop',evR,isS,cond_true,evS] at e1 e2 ⊢
 have hH1:h=H1:=by
  split at e1
  ·rw [qjv] at e1
   obtain⟨v,-,e⟩:=zR.1 e1
   cases e;rfl
  ·rw [qpF] at e1
   obtain⟨v,-,e⟩:=zR.1 e1
   cases e;rfl
 subst hH1
 refine⟨e2,?_⟩
 unfold qgd at e2
 split at e2
 ·cases e2
 rename_i oi fz' q' d' hat'
 rcases fz' with _ | _
 case true=>cases e2
 simp only [cond_false] at e2
 split at e2
 ·cases e2
 rename_i z' hz'
 obtain⟨c2,e2⟩:=qc e2
 simp only [two,zD,zN,qai] at e2
 obtain⟨-,rfl⟩:=e2
 have eo:getO h oi=.oth false q' d':=by
  unfold mapAt at hat'
  split at hat'
  ·cases hat'
  ·rename_i q0 _
   cases hu:ev t m' with
   | ptr o1 off=>
    rw [hu] at hat'
    simp only at hat'
    rw [qfi,Nat.zero_add] at hat'
    cases hmem:memN ids' o1 with
    | false=>rw [hmem] at hat';simp at hat'
    | true=>
     rw [hmem] at hat'
     simp only [if_true] at hat'
     cases eo:getO h o1 with
     | oth fz1 q1 d1=>
      rw [eo] at hat'
      simp only at hat'
      obtain⟨_,c⟩:=qc hat'
      simp only [zD,zN] at c
      obtain⟨rfl,rfl,c⟩:=c
      cases c
      exact eo
     | _=>rw [eo] at hat';cases hat'
   | _=>rw [hu] at hat';cases hat'
 split at e1
 ·rw [qjv] at e1 ⊢
  obtain⟨v,e1,e⟩:=zR.1 e1
  cases e
  have:qgY C (onlyF (memN ids) 0 (h.set oi (.oth false q' (mpEnt q'.k q'.v d' z')))) ty (ev t m) (ev t k) false some=some va:=by
   unfold qgY at e1 ⊢
   split at e1
   ·cases e1
   rename_i ob ver q d hat
   rw [qzJ eo hat]
   exact e1
  rw [this];rfl
 unfold qkV at e1 ⊢
 split at e1
 ·cases e1
 rename_i ob fz q d hat
 split at e1
 ·cases e1
 rename_i z hz
 simp only [cond_false,two,zD,zN] at e1
 obtain⟨rfl,-⟩:=e1
 obtain⟨fz2,d2,hat2,hget⟩:=qzY (y:=z') eo hat
 rw [hat2]
 simp only [hz,cond_false,two]
 rw [hget]
theorem qyf{x y:Oper×Md}(hsw:qrm all x.1 x.2 y.1 y.2=true){s s1 s2:S}(h1:stepA C all x s=some s1)(h2:stepA C all y s1=some s2) :
  ∃ s1',stepA C all y s=some s1'/\stepA C all x s1'=some s2:=by
 simp only [qrm,zA] at hsw
 obtain⟨⟨⟨hu,hxy⟩,hyx⟩,hm⟩:=hsw
 rw [zx] at hm
 rcases hm with hm | hm
 case inr=>
  obtain⟨o1,va,H1,e1,rfl⟩:=qeC h1
  obtain⟨o2,vb,H2,e2,rfl⟩:=qeC h2
  simp only at e2
  rw [<- qke (qlh hxy)] at e2
  obtain⟨e3,e4⟩:=qtk hm e1 e2
  refine⟨(upd y.1.dst vb s.1,H2),?_,?_⟩
  ·simp only [stepA,o2,cond_true,e3,Option.map_some]
  ·rw [qke (qlh hyx (v:=vb))] at e4
   simp only [stepA,o1,cond_true,e4,Option.map_some,qwS hu]
 obtain⟨m1,m2,m3,m4⟩:=qzX hm
 obtain⟨o1,va,H1,e1,rfl⟩:=qeC h1
 obtain⟨o2,vb,H2,e2,rfl⟩:=qeC h2
 simp only at e2
 rw [<- qke (qlh hxy)] at e2
 obtain⟨f1,l1⟩:=qmo e1
 obtain⟨f2,l2⟩:=qmo e2
 have full_of:∀ {md:Md},md.isPure=false->md.isFull=true\/md.isFull=false:=fun {md} _=>by cases md.isFull <;> simp
 have pf:∀ {md:Md},md.isPure=true->∀ i,¬ md.foot i:=fun {md} hp i=>by cases md <;> simp_all [Md.isPure,Md.foot]
 have pnf:∀ {md:Md},md.isPure=true->md.isFull=false:=fun {md} hp=>by cases md <;> simp_all [Md.isPure,Md.isFull]
 have nfull:∀ {md md':Md},(md.isFull=true->md'.isPure=true)->md'.isPure=false->md.isFull=false:=fun {md md'} hh hp=>by
  cases hf:md.isFull with
  | false=>rfl
  | true=>rw [hh hf] at hp;cases hp
 have ag1:Agree y.2 H1 s.2:=⟨fun hp=>l1 (nfull m3 hp),fun i hs=>f1 i fun hf=>m1 i hf hs⟩
 obtain⟨H1',e3,g3⟩:=qxZ ag1 e2
 obtain⟨f3,l3⟩:=qmo e3
 have ag2:Agree x.2 s.2 H1':=⟨fun hp=>(l3 (nfull m4 hp)).symm,fun i hs=>(f3 i fun hf=>m2 i hf hs).symm⟩
 obtain⟨H2',e4,g4⟩:=qxZ ag2 e1
 obtain⟨f4,l4⟩:=qmo e4
 have hH:H2=H2':=by
  apply qlQ
  ·cases hx:x.2.isFull with
   | true=>
    have hp:=m3 hx
    have h12:H2.length=H1.length:=l2 (pnf hp)
    have hs1:s.2=H1':=(qlQ (l3 (pnf hp)) fun i=>f3 i (pf hp i)).symm
    rw [<- hs1,e1] at e4
    cases e4
    exact h12
   | false=>
    cases hy:y.2.isFull with
    | true=>
     have hp:=m4 hy
     have hs1:H1=s.2:=qlQ (l1 hx) fun i=>f1 i (pf hp i)
     rw [hs1,e3] at e2
     cases e2
     exact (l4 hx).symm
    | false=>rw [l2 hy,l1 hx,l4 hx,l3 hy]
  ·intro i
   by_cases hx:x.2.foot i
   ·rw [f2 i fun hf=>m1 i hx (qpS hf),g4 i hx]
   ·by_cases hy:y.2.foot i
    ·rw [g3 i hy,f4 i hx]
    ·rw [f2 i hy,f1 i hx,f4 i hx,f3 i hy]
 subst hH
 refine⟨(upd y.1.dst vb s.1,H1'),?_,?_⟩
 ·simp only [stepA,o2,cond_true,e3,Option.map_some]
 ·rw [qke (qlh hyx (v:=vb))] at e4
  simp only [stepA,o1,cond_true,e4,Option.map_some,qwS hu]
theorem qiB:(pre:List (Oper×Md)) -> {x:Oper×Md} -> {post:List (Oper×Md)}->(∀ p∈pre,qrm all p.1 p.2 x.1 x.2=true) -> {s s':S} ->
  runA C all (pre++x :: post) s=some s'->∃ s1,stepA C all x s=some s1/\runA C all (pre++post) s1=some s'
 | [],x,post,hp,s,s',h=>by
  obtain⟨s1,h1,h2⟩:=zR.1 h
  exact⟨s1,h1,h2⟩
 | p :: pre,x,post,hp,s,s',h=>by
  obtain⟨s1,h1,h2⟩:=zR.1 h
  obtain⟨s2,h3,h4⟩:=qiB pre (fun q hq=>hp q (by simp [hq])) h2
  obtain⟨s1',h5,h6⟩:=qyf (hp p (by simp)) h1 h3
  refine⟨s1',h5,?_⟩
  simp only [List.cons_append,runA,h6,Option.bind_some]
  exact h4
end
end Go.Abs
