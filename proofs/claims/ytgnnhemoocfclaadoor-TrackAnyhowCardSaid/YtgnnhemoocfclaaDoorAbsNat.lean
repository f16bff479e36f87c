import Derived.Test.YtgnnhemoocfclaaDoorAbsOpsS
namespace Go.Abs
section
variable {ρ : Type} {C : Ctx} {h : List O} {t t' : Nat -> V}
theorem qh{α β:Type}(b:Bool)(x y:Option α)(K:α->Option β):(bif b then x else y).bind K=bif b then x.bind K else y.bind K:=by cases b <;> rfl
theorem qvv(op:BinOp)(k:IntKind)(x y:Int)(K:V->Option ρ):qpv op k x y K=(qpv op k x y some).bind K:=by
 cases op <;> simp only [qpv,qh,Option.bind_some,Option.bind_none]
theorem qtC(op:BinOp)(x y:Bool)(K:V->Option ρ):qqJ op x y K=(qqJ op x y some).bind K:=by
 cases op <;> rfl
theorem qvu(op:BinOp)(ty:TypeId)(x y:V)(K:V->Option ρ):qgR C op ty x y K=(qgR C op ty x y some).bind K:=by
 cases x <;> cases y <;> simp only [qgR,qh,Option.bind_none]
 ·rw [qvv];split <;> simp [Option.bind_none]
 ·rw [qtC]
 ·unfold nilOp
  split
  ·rfl
  ·cases op <;> rfl
 ·unfold quB
  split
  ·rfl
  ·rw [qh]
   congr 1
   split
   ·rfl
   ·split
    ·rfl
    ·split
     ·rfl
     ·split <;> rfl
theorem qvE(op:UnOp)(x:V)(K:V->Option ρ):unOpK op x K=(unOpK op x some).bind K:=by
 cases x <;> cases op <;> rfl
theorem qwz(ty:TypeId)(a:V)(K:V->Option ρ):loadK C h ty a K=(loadK C h ty a some).bind K:=by
 unfold loadK
 split
 ·rfl
 ·split
  ·rfl
  ·rw [qh];rfl
theorem qlw(size:Nat)(agg:Bool)(vs:List V)(i:Int)(K:V->Option ρ):(n j:Nat)->qgc size agg vs i K n j=(qgc size agg vs i some n j).bind K
 | 0,j=>rfl
 | n+1,j=>by simp only [qgc,qh,Option.bind_some];rw [qlw _ _ _ _ _ n]
theorem qkK{α β:Type}(x:Option Operand)(d:Int)(K:Int->Option α)(L:α->Option β):(qfk t x d K).bind L=qfk t x d (fun y=>(K y).bind L):=by
 unfold qfk
 split
 ·rfl
 ·split <;> rfl
theorem qvr(ty:TypeId)(ps:List (Nat×Operand))(K:V->Option ρ):qnK C t ty ps K=(qnK C t ty ps some).bind K:=by
 unfold qnK
 repeat' (first | rfl | split)
theorem qou(ty:TypeId)(x:V)(f:Nat)(K:V->Option ρ):qeX C h ty x f K=(qeX C h ty x f some).bind K:=by
 unfold qeX
 split
 ·rfl
 ·split
  ·split
   ·rfl
   ·rw [qh]
    cases x <;> simp only [qh,Option.bind_some,Option.bind_none]
    split <;> rfl
  ·rfl
theorem qvi(ty:TypeId)(x:V)(f:Nat)(K:V->Option ρ):qpg C ty x f K=(qpg C ty x f some).bind K:=by
 unfold qpg
 split
 ·rfl
 ·split
  ·split
   ·rfl
   ·split
    ·rfl
    ·cases x <;> simp only [qh,Option.bind_some,Option.bind_none]
  ·rfl
theorem qng(ty:TypeId)(x i:V)(K:V->Option ρ):qdY C h ty x i K=(qdY C h ty x i some).bind K:=by
 unfold qdY
 split
 ·rfl
 ·cases i <;> simp only [Option.bind_none]
  cases x <;> simp only [qh,Option.bind_some,Option.bind_none]
  all_goals split <;> simp only [qh,Option.bind_some,Option.bind_none]
theorem qot(ty:TypeId)(x i:V)(K:V->Option ρ):qeW C h ty x i K=(qeW C h ty x i some).bind K:=by
 unfold qeW
 split
 ·cases i <;> simp only [Option.bind_none]
  cases x <;> simp only [qh,Option.bind_some,Option.bind_none]
 ·exact qng ty x i K
theorem qvg(ty:TypeId)(x i:V)(K:V->Option ρ):qpc C ty x i K=(qpc C ty x i some).bind K:=by
 unfold qpc
 split
 ·rfl
 ·split
  ·split
   ·rfl
   ·cases i <;> simp only [Option.bind_none]
    cases x <;> simp only [qh,Option.bind_none]
    rw [qlw]
  ·rfl
theorem qqo(ty:TypeId)(s:ByteArray)(i:V)(K:V->Option ρ):qia C ty s i K=(qia C ty s i some).bind K:=rfl
theorem qsR(ty:TypeId)(x:V)(lo hi:Option Operand)(K:V->Option ρ):qkH C ty x lo hi K=(qkH C ty x lo hi some).bind K:=by
 unfold qkH
 split
 ·rfl
 ·split
  ·rfl
  ·split
   ·rfl
   ·split
    ·rw [qh];rfl
    ·rfl
theorem qsQ(ty:TypeId)(s:Sh)(y:s.den)(lo hi:Option Operand)(K:V->Option ρ):qjg C t ty s y lo hi K=(qjg C t ty s y lo hi some).bind K:=by
 unfold qjg
 split
 ·rfl
 split
 ·rfl
 split
 ·rfl
 rw [qh]
 congr 1
 split
 ·rfl
 ·simp only [qkK,qh,Option.bind_none,Option.bind_some]
theorem quT(ty:TypeId)(x:V)(lo hi:Option Operand)(K:V->Option ρ):qmq C h t ty x lo hi K=(qmq C h t ty x lo hi some).bind K:=by
 unfold qmq
 split
 ·split
  ·exact qsQ _ _ _ _ _ _
  ·exact qsR _ _ _ _ _
 ·cases x <;> (try simp only [qh,Option.bind_none,qkK,Option.bind_some])
  cases hi with
  | some _=>rfl
  | none=>
   simp only
   split
   ·simp only [qh,Option.bind_none,qkK,Option.bind_some]
   ·rfl
theorem qym(ty:TypeId)(x:V)(K:V->Option ρ):lenK C h ty x K=(lenK C h ty x some).bind K:=by
 unfold lenK
 repeat' (first | rfl | split)
theorem qmM(m:Bool)(vs:List V)(K:V->Option ρ):qjn m vs K=(qjn m vs some).bind K:=by
 unfold qjn
 repeat' (first | rfl | split)
theorem qvp(f:V)(args:List V)(K:V->Option ρ):qpt C h f args K=(qpt C h f args some).bind K:=by
 unfold qpt
 split
 ·split
  ·rfl
  ·split
   ·rename_i p _ _ _
    simp only [p.spOk]
    cases p.r <;> rfl
   ·rfl
 ·rfl
theorem qsr(s d:TypeId)(x:V)(K:V->Option ρ):qiB C s d x K=(qiB C s d x some).bind K:=by
 unfold qiB
 repeat' (first | rfl | split)
theorem qwa(c a b:V)(K:V->Option ρ):pickK c a b K=(pickK c a b some).bind K:=by
 cases c <;> simp only [pickK,qh,Option.bind_some,Option.bind_none]
theorem qqb(x:V)(K:V->Option ρ):qcV h x K=(qcV h x some).bind K:=by
 cases x <;> simp only [qcV,qh,Option.bind_some,Option.bind_none]
theorem qse(x:V)(i:Nat)(K:V->Option ρ):qhn x i K=(qhn x i some).bind K:=by
 unfold qhn
 repeat' (first | rfl | split)
theorem qmW(ty:TypeId)(x i:V)(ok:Bool)(K:V->Option ρ):qjp C h ty x i ok K=(qjp C h ty x i ok some).bind K:=by
 unfold qjp
 split
 ·rfl
 ·split
  ·rfl
  ·rw [qh];rfl
theorem qhY(ty:TypeId)(x i:V)(ok:Bool)(K:V->Option ρ):qfY C h ty x i ok K=(qfY C h ty x i ok some).bind K:=by
 unfold qfY
 split
 ·rfl
 ·split
  ·rfl
  ·split
   ·rfl
   ·simp only [qh,Option.bind_none,Option.bind_some]
theorem qts(x:V)(K:V->Option ρ):qkW h x K=(qkW h x some).bind K:=by
 unfold qkW
 split
 ·rfl
 ·split
  ·rw [qh];rfl
  ·rfl
theorem qwH(x:V)(K:V->Option ρ):lenNK h x K=(lenNK h x some).bind K:=rfl
theorem qvk(x:V)(K:V->Option ρ):qph h x K=(qph h x some).bind K:=by
 unfold qph
 split
 ·exact qts _ _
 ·split
  ·rw [qh];rfl
  ·rfl
theorem qtl(ty:TypeId)(x:V)(K:V->Option ρ):qkQ C h ty x K=(qkQ C h ty x some).bind K:=by
 unfold qkQ
 split
 ·split
  ·rfl
  ·exact qwH _ _
 ·rfl
theorem qxs(c:Call)(K:V->Option ρ):callR C t h c K=(callR C t h c some).bind K:=by
 unfold callR
 split
 ·split
  ·split
   ·split
    ·exact qtl _ _ _
    ·exact qym _ _ _
   ·rfl
  ·exact qmM _ _ _
  ·exact qmM _ _ _
  ·rfl
 ·split
  ·rfl
  ·exact qvp _ _ _
theorem qeT(op:BinOp)(b:Bool)(K:V->Option ρ):qgE op b K=(qgE op b some).bind K:=by
 unfold qgE
 split <;> rfl
theorem qsX(op:BinOp)(ty:TypeId)(x:V)(K:V->Option ρ):qkJ C op ty x K=(qkJ C op ty x some).bind K:=by
 unfold qkJ
 split
 ·rfl
 ·split
  ·split
   ·exact qeT _ _ _
   ·rw [qh,qeT];rfl
   ·exact qeT _ _ _
   ·rfl
  ·rfl
theorem qtf(op:BinOp)(ty:TypeId)(x:V)(K:V->Option ρ):qkN C h op ty x K=(qkN C h op ty x some).bind K:=by
 unfold qkN
 split
 ·rfl
 ·split
  ·split
   ·exact qeT _ _ _
   ·split
    ·rw [qh,qeT];rfl
    ·rfl
   ·split
    ·rw [qh,qeT];rfl
    ·rfl
   ·rfl
  ·rfl
theorem qto(op:BinOp)(ty:TypeId)(x:V)(K:V->Option ρ):qnh C op ty x K=(qnh C op ty x some).bind K:=rfl
theorem quY(ty:TypeId)(x:V)(K:V->Option ρ):qrE C ty x K=(qrE C ty x some).bind K:=rfl
theorem qeH(o:Op)(K:V->Option ρ):evR C o t h K=(evR C o t h some).bind K:=by
 unfold evR
 split
 ·rfl
 ·rfl
 ·exact qwa _ _ _ _
 ·split
  ·exact qto _ _ _ _
  ·exact qsX _ _ _ _
  ·exact qtf _ _ _ _
  ·exact qvu _ _ _ _ _
 ·exact quY _ _ _
 ·exact qvE _ _ _
 ·exact qsr _ _ _ _
 ·exact qqb _ _
 ·exact qwz _ _ _
 ·exact qou _ _ _ _
 ·exact qvi _ _ _ _
 ·exact qot _ _ _ _
 ·split
  ·exact qqo _ _ _ _
  ·exact qvg _ _ _ _
 ·exact qse _ _ _
 ·exact qvr _ _ _
 ·split
  ·simp only [qh,Option.bind_some,Option.bind_none]
  ·rfl
 ·split
  ·exact quT _ _ _ _ _
  ·rfl
 ·split
  ·exact qhY _ _ _ _ _
  ·exact qmW _ _ _ _ _
 ·exact qvk _ _
 ·exact qxs _ _
 ·rfl
abbrev trip(v:V)(ss:List (Nat×O))(mk:Option O):Option (V×List (Nat×O)×Option O):=some (v,ss,mk)
theorem qnJ(nid:Nat)(ty:TypeId)(n:Nat)(ps:List (Nat×Operand))(K:V->List (Nat×O)->Option O->Option ρ):qdk C t h nid ty n ps K=(qdk C t h nid ty n ps trip).bind fun p=>K p.1 p.2.1 p.2.2:=by
 unfold qdk
 split
 ·rfl
 ·split
  ·rfl
  ·rw [qh]
   split
   ·rfl
   ·split <;> rfl
theorem qmU(nid:Nat)(ty:TypeId)(l c:V)(K:V->List (Nat×O)->Option O->Option ρ):qdW C nid ty l c K=(qdW C nid ty l c trip).bind fun p=>K p.1 p.2.1 p.2.2:=by
 unfold qdW
 split
 ·rfl
 ·split
  ·rfl
  ·cases l <;> simp only [Option.bind_none]
   cases c <;> simp only [qh,Option.bind_some,Option.bind_none]
theorem qoo(nid:Nat)(ty:TypeId)(l c:V)(t:Kt)(K:V->List (Nat×O)->Option O->Option ρ):qeU C nid ty l c t K=(qeU C nid ty l c t trip).bind fun p=>K p.1 p.2.1 p.2.2:=by
 unfold qeU
 split
 ·rfl
 ·split
  ·cases l <;> simp only [Option.bind_none]
   cases c <;> simp only [qh,Option.bind_some,Option.bind_none]
  ·rfl
theorem qop(nid:Nat)(ty:TypeId)(l c:V)(K:V->List (Nat×O)->Option O->Option ρ):qeV C nid ty l c K=(qeV C nid ty l c trip).bind fun p=>K p.1 p.2.1 p.2.2:=by
 unfold qeV
 split
 ·exact qoo ..
 ·exact qmU ..
theorem quQ(ty:TypeId)(o ver i off:Nat)(v:V)(K:V->List (Nat×O)->Option O->Option ρ):qoL C h ty o ver i off v K=(qoL C h ty o ver i off v trip).bind fun p=>K p.1 p.2.1 p.2.2:=by
 unfold qoL
 split
 ·rfl
 ·split
  ·rw [qh]
   split
   ·rw [qh]
    split <;> rfl
   ·split
    ·rfl
    ·split
     ·rfl
     ·rw [qh];rfl
  ·rfl
theorem qmm(ty:TypeId)(a v:V)(K:V->List (Nat×O)->Option O->Option ρ):qjc C h ty a v K=(qjc C h ty a v trip).bind fun p=>K p.1 p.2.1 p.2.2:=by
 unfold qjc
 split
 ·rfl
 ·rw [qh]
  cases a <;> simp only [Option.bind_none]
  ·split <;> simp only [qh,Option.bind_some,Option.bind_none]
  ·split
   ·rw [qh]
    split <;> rfl
   ·rfl
theorem quR(ty:TypeId)(a v:V)(K:V->List (Nat×O)->Option O->Option ρ):qoM C h ty a v K=(qoM C h ty a v trip).bind fun p=>K p.1 p.2.1 p.2.2:=by
 unfold qoM
 split
 ·split
  ·exact quQ ..
  ·exact qmm ..
 ·exact qmm ..
theorem qnN(nid:Nat)(ty:TypeId)(x y:V)(K:V->List (Nat×O)->Option O->Option ρ):qjx C h nid ty x y K=(qjx C h nid ty x y trip).bind fun p=>K p.1 p.2.1 p.2.2:=by
 unfold qjx
 split
 ·rfl
 ·split
  ·rfl
  ·split
   ·rfl
   ·rw [qh]
    cases x <;> simp only [Option.bind_none,qh,Option.bind_some]
    split
    ·rw [qh]
     split
     ·rfl
     ·rw [qh];rfl
    ·rfl
theorem qlG(nid:Nat)(ty:TypeId)(x y:V)(K:V->List (Nat×O)->Option O->Option ρ):qhq C h nid ty x y K=(qhq C h nid ty x y trip).bind fun p=>K p.1 p.2.1 p.2.2:=by
 unfold qhq
 split
 ·rfl
 ·split
  ·rfl
  ·rw [qh]
   split
   ·rfl
   ·cases x <;> simp only [Option.bind_none,qh,Option.bind_some]
    split
    ·rw [qh]
     split
     ·rfl
     ·rw [qh];rfl
    ·rfl
theorem qtE(nid:Nat)(ty:TypeId)(x y:V)(K:V->List (Nat×O)->Option O->Option ρ):qlg C h nid ty x y K=(qlg C h nid ty x y trip).bind fun p=>K p.1 p.2.1 p.2.2:=by
 unfold qlg
 split
 ·exact qnN ..
 ·split
  ·exact qnN ..
  ·exact qlG ..
 ·exact qlG ..
theorem qxn(ty:TypeId)(x y:V)(K:V->List (Nat×O)->Option O->Option ρ):copyK C h ty x y K=(copyK C h ty x y trip).bind fun p=>K p.1 p.2.1 p.2.2:=by
 unfold copyK
 split
 ·rfl
 ·split
  ·rfl
  ·split
   ·rfl
   ·cases x <;> simp only [Option.bind_none]
    ·split
     ·rw [qh]
      split <;> rfl
     ·rfl
    ·split
     ·rw [qh]
      split <;> rfl
     ·rfl
theorem qrJ(nid:Nat)(ty:TypeId)(rs:Option V)(K:V->List (Nat×O)->Option O->Option ρ):qit C nid ty rs K=(qit C nid ty rs trip).bind fun p=>K p.1 p.2.1 p.2.2:=by
 unfold qit
 split
 ·split
  ·rfl
  ·split <;> rfl
 ·split <;> rfl
theorem qmQ(ty:TypeId)(m k x:V)(K:V->List (Nat×O)->Option O->Option ρ):qfn C h ty m k x K=(qfn C h ty m k x trip).bind fun p=>K p.1 p.2.1 p.2.2:=rfl
theorem qsW(nid:Nat)(ty:TypeId)(x:V)(K:V->List (Nat×O)->Option O->Option ρ):qmD C h nid ty x K=(qmD C h nid ty x trip).bind fun p=>K p.1 p.2.1 p.2.2:=rfl
theorem qmR(ty:TypeId)(m k x:V)(K:V->List (Nat×O)->Option O->Option ρ):qfo C h ty m k x K=(qfo C h ty m k x trip).bind fun p=>K p.1 p.2.1 p.2.2:=rfl
theorem qiN(ty:TypeId)(m k x:V)(K:V->List (Nat×O)->Option O->Option ρ):qdV C h ty m k x K=(qdV C h ty m k x trip).bind fun p=>K p.1 p.2.1 p.2.2:=by
 unfold qdV
 split
 ·exact qmR _ _ _ _ _
 ·rw [qh]
  congr 1
  split
  ·rfl
  ·split <;> rfl
theorem qqi(ty:TypeId)(m k:V)(K:V->List (Nat×O)->Option O->Option ρ):qfp C h ty m k K=(qfp C h ty m k trip).bind fun p=>K p.1 p.2.1 p.2.2:=by
 unfold qfp
 split
 ·rfl
 ·rw [qh]
  congr 1
  split <;> rfl
theorem qny(ty:TypeId)(m s x:V)(K:V->List (Nat×O)->Option O->Option ρ):qea C h ty m s x K=(qea C h ty m s x trip).bind fun p=>K p.1 p.2.1 p.2.2:=by
 unfold qea
 split
 ·rfl
 ·rw [qh]
  congr 1
  cases s <;> simp only [Option.bind_none]
  split
  ·rfl
  ·rw [qh];rfl
theorem quW(nid:Nat)(ty:TypeId)(x:V)(K:V->List (Nat×O)->Option O->Option ρ):qoT C h nid ty x K=(qoT C h nid ty x trip).bind fun p=>K p.1 p.2.1 p.2.2:=by
 unfold qoT
 split <;> rfl
theorem qtz(ty:TypeId)(m k:V)(K:V->List (Nat×O)->Option O->Option ρ):qlb C h ty m k K=(qlb C h ty m k trip).bind fun p=>K p.1 p.2.1 p.2.2:=by
 unfold qlb
 split
 ·rfl
 ·rw [qh]
  congr 1
  split <;> rfl
theorem qvn(ty:TypeId)(m:V)(K:V->List (Nat×O)->Option O->Option ρ):qpp C h ty m K=(qpp C h ty m trip).bind fun p=>K p.1 p.2.1 p.2.2:=by
 unfold qpp
 split
 ·rfl
 ·rw [qh];rfl
theorem qqH(ty:TypeId)(m:V)(K:V->List (Nat×O)->Option O->Option ρ):qgQ C h ty m K=(qgQ C h ty m trip).bind fun p=>K p.1 p.2.1 p.2.2:=by
 unfold qgQ
 repeat' (first | rfl | split | rw [qh];congr 1)
theorem qeG(o:Op)(nid:Nat)(K:V->List (Nat×O)->Option O->Option ρ):evS C o t h nid K=(evS C o t h nid trip).bind fun p=>K p.1 p.2.1 p.2.2:=by
 unfold evS
 split
 ·split <;> rfl
 ·rw [qh];rfl
 ·exact qnJ _ _ _ _ _
 ·exact qop _ _ _ _ _
 ·exact quR _ _ _ _
 ·exact qrJ _ _ _ _
 ·split
  ·exact qmQ _ _ _ _ _
  ·exact qiN _ _ _ _ _
 ·exact qiN _ _ _ _ _
 ·exact qqi _ _ _ _
 ·exact qny _ _ _ _ _
 ·split
  ·exact qsW _ _ _ _
  ·exact quW _ _ _ _
 ·rw [qh]
  congr 1
  ·split
   ·exact qtz _ _ _ _
   ·rfl
  rw [qh]
  congr 1
  ·split
   ·split
    ·exact qvn _ _ _
    ·exact qqH _ _ _
   ·rfl
  split
  ·rw [qh,qh,qtE,qxn];rfl
  ·rfl
 ·rfl
abbrev two(v:V)(h:List O):Option (V×List O):=some (v,h)
theorem qvq(f o ver:Nat)(q:Nst)(d:q.sh.den)(i:Nat)(args:List V)(K:V->List O->Option ρ):qsx C h f o ver q d i args K=(qsx C h f o ver q d i args two).bind fun p=>K p.1 p.2:=rfl
theorem qvo(f:V)(args:List V)(K:V->List O->Option ρ):qsu C h f args K=(qsu C h f args two).bind fun p=>K p.1 p.2:=by
 unfold qsu
 split
 ·split
  ·rename_i p _
   simp only [p.spOk]
   cases p.r <;> rfl
  ·split
   ·exact qvq _ _ _ _ _ _ _ _
   ·rfl
 ·rfl
theorem qvt(o:Op)(K:V->List O->Option ρ)(K':Option ρ)(K2:Option (V×List O))(hk:K'=K2.bind fun p=>K p.1 p.2):qpu C o t h K K'=(qpu C o t h two K2).bind fun p=>K p.1 p.2:=hk
theorem qzv(o:Op)(K:V->List O->Option ρ):evW C o t h K=(evW C o t h two).bind fun p=>K p.1 p.2:=by
 unfold evW
 rw [qh]
 congr 1
 ·rw [qeG o h.length (fun v ss mk=>K v (qO ss h++mk.toList)),qeG o h.length (fun v ss mk=>two v (qO ss h++mk.toList))]
  cases evS C o t h h.length trip <;> rfl
 ·split
  ·exact qvo _ _ _
  split
  ·rfl
  split
  ·rw [qh];rfl
  ·refine qvt _ _ _ _ ?_
   rw [qeH o (fun v=>K v h),qeH o (fun v=>two v h)]
   cases evR C o t h some <;> rfl
theorem qih(f:V)(args:List V)(K:O->Option ρ):callN C f args K=(callN C f args some).bind K:=by
 unfold callN
 split
 ·rw [qh]
  congr 1
  split
  ·rfl
  ·split
   ·rfl
   ·rename_i p _ _ _ _
    simp only [p.spOk]
    cases p.r with
    | none=>rfl
    | some a=>
     simp only [Option.bind_some]
     split <;> rfl
 ·rfl
theorem qxr(ids:List Nat)(f:V)(args:List V)(K:V->List O->Option ρ):callS C h ids f args K=(callS C h ids f args two).bind fun p=>K p.1 p.2:=by
 unfold callS
 split
 ·rw [qh]
  congr 1
  split
  ·rfl
  ·split
   ·rfl
   ·rename_i p _ _ _ _
    simp only [p.spOk]
    cases p.r with
    | none=>rfl
    | some a=>simp only [Option.bind_some,qh];rfl
 ·rfl
theorem qzx(o:Op)(md:Md)(K:V->List O->Option ρ):evM C o t h md K=(evM C o t h md two).bind fun p=>K p.1 p.2:=by
 cases md with
 | pure=>simp only [evM];rw [qeH o (fun v=>K v h),qeH o (fun v=>two v h)];cases evR C o t [] some <;> rfl
 | rd ids=>simp only [evM];rw [qeH o (fun v=>K v h),qeH o (fun v=>two v h)];cases evR C o t (onlyF (memN ids) 0 h) some <;> rfl
 | wr ids=>
  simp only [evM,qh,Option.bind_none]
  congr 1
  ·refine (qeG o 0 _).trans (Eq.trans ?_ (congrArg (fun z=>Option.bind z fun p:V×List O=>K p.1 p.2) (qeG o 0 _).symm))
   cases evS C o t (onlyF (memN ids) 0 h) 0 trip with
   | none=>rfl
   | some p=>
    obtain⟨v,ss,mk⟩:=p
    cases mk <;> simp only [Option.bind_some,qh,Option.bind_none]
  ·split
   ·exact qxr _ _ _ _
   ·split
    ·split <;> simp only [qh,Option.bind_none] <;> rfl
    ·split <;> simp only [qh,Option.bind_none] <;> rfl
 | new id=>
  simp only [evM,qh,Option.bind_none]
  congr 1
  ·refine (qeG o id _).trans (Eq.trans ?_ (congrArg (fun z=>Option.bind z fun p:V×List O=>K p.1 p.2) (qeG o id _).symm))
   cases evS C o t [] id trip with
   | none=>rfl
   | some p=>
    obtain⟨v,ss,mk⟩:=p
    cases ss <;> cases mk <;> simp only [Option.bind_some,Option.bind_none]
    split <;> simp only [qh,Option.bind_some,Option.bind_none]
  split
  ·refine (qih _ _ _).trans (Eq.trans ?_ (congrArg (fun z=>Option.bind z fun p:V×List O=>K p.1 p.2) (qih _ _ _).symm))
   cases callN C _ _ some with
   | none=>rfl
   | some x=>
    simp only [Option.bind_some]
    split <;> simp only [qh,Option.bind_some,Option.bind_none]
  ·rfl
 | full=>exact qzv o K
end
end Go.Abs
namespace Go.Abs
section
variable {ρ : Type} {C : Ctx} {h h' : List O} {t t' : Nat -> V}
def Same(t t':Nat->V)(o:Op):Prop:=∀ i∈qyR o,t i=t' i
theorem qyz{x:Operand}(hx:∀ i,x=.tmp i->t i=t' i):ev t x=ev t' x:=by
 cases x with
 | tmp i=>exact hx i rfl
 | _=>rfl
theorem Same.ev{o:Op}(hs:Same t t' o){x:Operand}(hx:x∈o.operands):ev t x=ev t' x:=
 qyz fun i hi=>hs i (by
  subst hi
  exact List.mem_filterMap.2 ⟨.tmp i,by simpa using hx,rfl⟩)
theorem qjr{place:Nat->Option (Nat×Nat)}:(ps:List (Nat×Operand))->(vs:List V)->(∀ p∈ps,ev t p.2=ev t' p.2)->fillV place t ps vs=fillV place t' ps vs
 | [],vs,_=>rfl
 | (i,x) :: r,vs,hp=>by
  have hx:=hp (i,x) (by simp)
  simp only at hx
  simp only [fillV,hx]
  split
  ·rfl
  ·rw [qjr r _ fun p hm=>hp p (by simp [hm])]
theorem qis{xs:List Operand}(hx:∀ x∈xs,ev t x=ev t' x):xs.map (ev t)=xs.map (ev t'):=List.map_congr_left hx
theorem qtB{c:Call}(hx:∀ x∈c.operands,ev t x=ev t' x)(K:V->Option ρ):callR C t h c K=callR C t' h c K:=by
 have hargs:∀ x∈c.args,ev t x=ev t' x:=fun x hm=>hx x (by simp [Call.operands,hm])
 have hm:=qis (t:=t) (t':=t') (xs:=c.args.toList) (fun x hm=>hargs x (by simpa using hm))
 unfold callR
 split
 ·split
  ·split
   ·rename_i x ty e _
    rw [hargs x (zAj e)]
   ·rfl
  ·rw [hm]
  ·rw [hm]
  ·rfl
 ·have:callT C.T t (.call c)=callT C.T t' (.call c):=by
   unfold callT
   simp only
   split
   ·rename_i f hf
    rw [hm,hx f (by simp [Call.operands,hf])]
   ·rename_i r nm hf
    rw [hm,hx r (by simp [Call.operands,hf])]
   ·rfl
  rw [this]
theorem qnx{o:Op}(hs:Same t t' o)(K:V->Option ρ):evR C o t h K=evR C o t' h K:=by
 have hev:∀ x∈o.operands,ev t x=ev t' x:=fun x hx=>hs.ev hx
 cases o <;> simp only [Op.operands] at hev <;> simp only [evR]
 case build ty ps=>
  unfold qnK
  have:=fun place vs=>qjr (place:=place) ps.toList vs (fun p hp=>hev p.2 (by simp;exact⟨p.1,by simpa using hp⟩))
  simp only [this]
 case makeFunc fn first caps=>
  rw [qis (xs:=caps.toList) fun x hx=>hev x (by simp;exact .inr (by simpa using hx)),qis (xs:=first.toList) fun x hx=>hev x (by simp;exact .inl (by simpa using hx))]
 case slice ty x lo hi mx=>
  have h1:=hev x (by simp)
  have h2:∀ d (K:Int->Option ρ),qfk t lo d K=qfk t' lo d K:=fun d K=>by
   cases lo with
   | none=>rfl
   | some y=>simp only [qfk,hev y (by simp)]
  have h3:∀ d (K:Int->Option ρ),qfk t hi d K=qfk t' hi d K:=fun d K=>by
   cases hi with
   | none=>rfl
   | some y=>simp only [qfk,hev y (by simp)]
  cases mx <;> simp only [qmq,qjg,h1,h2,h3]
 case call c=>exact qtB (by simpa using hev) K
 all_goals (first | rfl | (simp_all;done))
theorem qnv{o:Op}(hs:Same t t' o)(nid:Nat)(K:V->List (Nat×O)->Option O->Option ρ):evS C o t h nid K=evS C o t' h nid K:=by
 have hev:∀ x∈o.operands,ev t x=ev t' x:=fun x hx=>hs.ev hx
 cases o <;> simp only [Op.operands] at hev <;> simp only [evS]
 case buildSlice ty n ps=>
  unfold qdk
  have:=fun place vs=>qjr (place:=place) ps.toList vs (fun p hp=>hev p.2 (by simp;exact⟨p.1,by simpa using hp⟩))
  simp only [this]
 case call c=>
  have hargs:∀ x∈c.args,ev t x=ev t' x:=fun x hm=>hev x (by simp [Call.operands,hm])
  congr 1
  ·split
   ·rename_i x y ty e1 e2 _
    rw [hargs x (zAj e1),hargs y (zAj e2)]
   ·rfl
  congr 1
  ·split
   ·rename_i x ty e1 _
    rw [hargs x (zAj e1)]
   ·rfl
  split
  ·rename_i x y ty ty' e1 e2 _ _
   rw [hargs x (zAj e1),hargs y (zAj e2)]
  ·rfl
 case makeMap ty rs=>
  cases rs with
  | none=>rfl
  | some x=>simp only [Option.map_some,hev x (by simp)]
 all_goals (first | rfl | (simp_all;done))
theorem qjv{T:List (Nat×TE)}{o:Op}(hs:Same t t' o):callT T t o=callT T t' o:=by
 unfold callT
 split
 ·rename_i c
  have hc:∀ x∈c.operands,ev t x=ev t' x:=fun x hx=>hs.ev (by simpa [Op.operands] using hx)
  have hm:=qis (t:=t) (t':=t') (xs:=c.args.toList) (fun x hm=>hc x (by simp [Call.operands];exact .inr (by simpa using hm)))
  split
  ·rename_i f hf
   rw [hm,hc f (by simp [Call.operands,hf])]
  ·rename_i r nm hf
   rw [hm,hc r (by simp [Call.operands,hf])]
  ·rfl
 ·rfl
theorem qsB{o:Op}(hs:Same t t' o)(K:V->List O->Option ρ)(K':Option ρ):qpu C o t h K K'=qpu C o t' h K K':=rfl
theorem qml{o:Op}(hs:Same t t' o)(nid:Nat):takeO C o t h nid=takeO C o t' h nid:=by
 cases o with
 | lookup ty x i ok=>
  have e1:=hs.ev (x:=x) (by simp [Op.operands])
  have e2:=hs.ev (x:=i) (by simp [Op.operands])
  cases ok <;> simp only [takeO,e1,e2]
 | load ty x=>
  have e1:=hs.ev (x:=x) (by simp [Op.operands])
  simp only [takeO,e1]
 | _=>rfl
theorem qnE{o:Op}(hs:Same t t' o):dropO C o t h=dropO C o t' h:=by
 cases o with
 | slice ty x lo hi mx=>
  have e1:=hs.ev (x:=x) (by simp [Op.operands])
  cases lo with
  | none=>rfl
  | some lo=>
   have e2:=hs.ev (x:=lo) (by simp [Op.operands])
   cases hi <;> cases mx <;> first | rfl | simp only [dropO,e1,e2]
 | _=>rfl
theorem qxb{o:Op}(hs:Same t t' o)(md:Md)(K:V->List O->Option ρ):evM C o t h md K=evM C o t' h md K:=by
 cases md <;> simp only [evM]
 ·exact qnx hs _
 ·exact qnx hs _
 ·rw [qnv hs,qjv hs,qml hs,qnE hs]
 ·rw [qnv hs,qjv hs]
 ·unfold evW
  rw [qnv hs,qnx hs,qjv hs,qsB hs,qml hs,qnE hs]
def Md.sees:Md->Nat->Prop
 | .pure,_=>False
 | .rd ids,i=>memN ids i=true
 | .wr ids,i=>memN ids i=true
 | .new id,i=>i=id
 | .full,_=>True
def Md.foot:Md->Nat->Prop
 | .pure,_=>False
 | .rd _,_=>False
 | .wr ids,i=>memN ids i=true
 | .new id,i=>i=id
 | .full,_=>True
def Md.isFull:Md->Bool
 | .full=>true
 | _=>false
def Md.isPure:Md->Bool
 | .pure=>true
 | _=>false
structure Agree (md:Md) (h h':List O):Prop where
 len:md.isPure=false->h.length=h'.length
 get:∀ i,md.sees i->getO h i=getO h' i
theorem qki{h h':List O}(hl:h.length=h'.length)(hg:∀ i,getO h i=getO h' i):h=h':=by
 apply List.ext_getElem hl
 intro i h1 h2
 have:=hg i
 simpa [getO,List.getD,h1,h2] using this
theorem qhU(p:Nat->Bool):(i:Nat)->(h:List O)->(onlyF p i h).length=h.length
 | _,[]=>rfl
 | i,x :: h=>by simp [onlyF,qhU p (i+1) h]
theorem qjk{ids:List Nat}(hl:h.length=h'.length)(hg:∀ i,memN ids i=true->getO h i=getO h' i):onlyF (memN ids) 0 h=onlyF (memN ids) 0 h':=by
 apply qki
 ·rw [qhU,qhU,hl]
 ·intro i
  rw [qex,qex,Nat.zero_add]
  split
  ·exact hg i ‹_›
  ·rfl
theorem qgr:(ss:List (Nat×O))->(h:List O)->(i:Nat)->(∀ p∈ss,p.1≠i)->getO (qO ss h) i=getO h i
 | [],h,i,_=>rfl
 | (j,x) :: r,h,i,hp=>by
  simp only [qO]
  rw [qgr r _ i fun p hm=>hp p (by simp [hm])]
  have:=hp (j,x) (by simp)
  simp only at this
  simp [getO,List.getD,zAw this]
theorem qdF{h h':List O}(hl:h.length=h'.length){i j:Nat}{x:O}(hg:getO h i=getO h' i):getO (h.set j x) i=getO (h'.set j x) i:=by
 simp only [getO,List.getD,zAZ] at hg ⊢
 rw [hl]
 split
 ·rfl
 ·exact hg
theorem qeF:(ss:List (Nat×O)) -> {h h':List O}->h.length=h'.length->(i:Nat)->getO h i=getO h' i->getO (qO ss h) i=getO (qO ss h') i
 | [],h,h',_,i,hg=>hg
 | (j,x) :: r,h,h',hl,i,hg=>qeF r (by simp [hl]) i (qdF hl hg)
theorem qps{h:List O}{ids:List Nat}{f:V}{args:List V}{v:V}{H:List O}(he:callS C h ids f args two=some (v,H)) :
  ∃ g caps p u a,f=.clo g caps/\qaZ ids (argsF g args caps)=true/\clsd ids (onlyF (memN ids) 0 h)=true/\C.G (tgtF g) (argsF g args caps) (onlyF (memN ids) 0 h)=some p/\p.h=some u/\p.r=some a /\
   (u a (onlyF (memN ids) 0 h)).length=h.length/\qjl (memN ids) 0 (u a (onlyF (memN ids) 0 h))=true/\v=p.v a/\H=mixF (memN ids) 0 (u a (onlyF (memN ids) 0 h)) h:=by
 unfold callS at he
 split at he
 ·rename_i g caps
  obtain⟨hc,he⟩:=qc he
  rw [zB] at hc
  split at he
  ·cases he
  ·rename_i p hp
   split at he
   ·cases he
   ·rename_i u hu
    cases hr:p.r with
    | none=>rw [hr] at he;cases he
    | some a=>
     rw [hr] at he
     simp only [Option.bind_some,p.spOk] at he
     obtain⟨hl,he⟩:=qc he
     rw [zB] at hl
     cases he
     exact⟨g,caps,p,u,a,rfl,hc.1,hc.2,hp,hu,hr,zA hl.1,hl.2,rfl,rfl⟩
 ·cases he
theorem quA{o:Op}{md:Md}{v:V}{H:List O}(he:evM C o t h md two=some (v,H)):(∀ i,¬ md.foot i->getO H i=getO h i)/\(md.isFull=false->H.length=h.length):=by
 cases md with
 | pure=>
  simp only [evM] at he
  rw [qeH o] at he
  obtain⟨u,_,he⟩:=zd.1 he
  cases he
  exact⟨fun _ _=>rfl,fun _=>rfl⟩
 | rd ids=>
  simp only [evM] at he
  rw [qeH o] at he
  obtain⟨u,_,he⟩:=zd.1 he
  cases he
  exact⟨fun _ _=>rfl,fun _=>rfl⟩
 | wr ids=>
  simp only [evM] at he
  cases hS:isS o with
  | false=>
   rw [hS,cond_false] at he
   split at he
   ·obtain⟨g,caps,p,u,a,-,-,-,-,-,-,hl,-,-,rfl⟩:=qps he
    exact⟨fun i hn=>by rw [qjT _ _ _ _ hl,Nat.zero_add,zK (show ¬ memN ids i=true from hn)],fun _=>qmL _ _ _ _ hl⟩
   ·split at he
    ·rename_i p hp
     split at he
     ·rename_i hg
      obtain⟨hi,he⟩:=qc he
      simp only [zB] at hi
      cases he
      refine⟨fun i hn=>?_,fun _=>by rw [zAl,qaL]⟩
      have hne:ids.headD 0≠i:=fun e=>hn (by rw [<- e];exact hi.1)
      have e1:getO ((qO p.1 h).set (ids.headD 0) p.2) i=getO (qO p.1 h) i:=by unfold getO;rw [zJ,zJ,zAw hne]
      rw [e1]
      refine qgr p.1 h i fun q hq e=>hn ?_
      have:=zo.1 hi.2.2 q hq
      rw [e] at this
      exact this
     ·cases he
    ·split at he
     ·rename_i p hp
      obtain⟨hi,he⟩:=qc he
      cases he
      refine⟨fun i hn=>?_,fun _=>by rw [zAl]⟩
      rw [zB] at hi
      have hne:p.2.2.1≠i:=fun e=>hn (by rw [<- e];exact hi.1)
      unfold getO;rw [zJ,zJ,zAw hne]
     ·cases he
  | true=>
  rw [hS,cond_true] at he
  rw [qeG o] at he
  obtain⟨⟨u,ss,mk⟩,_,he⟩:=zd.1 he
  cases mk with
  | some x=>cases he
  | none=>
   simp only at he
   obtain⟨hi,he⟩:=qc he
   cases he
   refine⟨fun i hn=>qgr ss h i fun p hp e=>hn ?_,fun _=>qaL _ _⟩
   have:=zo.1 hi p hp
   rw [e] at this
   exact this
 | new id=>
  simp only [evM] at he
  cases hS:isS o with
  | true=>
   rw [hS,cond_true,qeG o] at he
   obtain⟨⟨u,ss,mk⟩,_,he⟩:=zd.1 he
   cases ss with
   | cons p ss=>cases he
   | nil=>
    cases mk with
    | none=>cases he
    | some x=>
     simp only at he
     cases hg:getO h id with
     | none=>
      rw [hg] at he
      simp only at he
      obtain⟨_,he⟩:=qc he
      cases he
      refine⟨fun i hn=>?_,fun _=>by simp⟩
      have hn:id≠i:=fun e=>hn e.symm
      simp [getO,List.getD,zAw hn]
     | cells vs=>rw [hg] at he;cases he
     | nst _ _ _=>rw [hg] at he;cases he
     | kds _ _ _ _ _=>rw [hg] at he;cases he
     | gone=>rw [hg] at he;cases he
     | oth fz q d=>rw [hg] at he;cases he
     | row fz ver e s xs=>rw [hg] at he;cases he
  | false=>
   rw [hS,cond_false] at he
   split at he
   ·rw [qih] at he
    obtain⟨x,_,he⟩:=zd.1 he
    cases hg:getO h id with
    | none=>
     rw [hg] at he
     simp only at he
     obtain⟨_,he⟩:=qc he
     cases he
     refine⟨fun i hn=>?_,fun _=>by simp⟩
     have hn:id≠i:=fun e=>hn e.symm
     simp [getO,List.getD,zAw hn]
    | cells vs=>rw [hg] at he;cases he
    | nst _ _ _=>rw [hg] at he;cases he
    | kds _ _ _ _ _=>rw [hg] at he;cases he
    | gone=>rw [hg] at he;cases he
    | oth fz q d=>rw [hg] at he;cases he
    | row fz ver e s xs=>rw [hg] at he;cases he
   ·cases he
 | full=>exact⟨fun i hn=>absurd trivial hn,fun hf=>by cases hf⟩
theorem qxa{o:Op}{md:Md}{v:V}{H:List O}(ha:Agree md h h')(he:evM C o t h md two=some (v,H)) :
  ∃ H',evM C o t h' md two=some (v,H')/\∀ i,md.foot i->getO H i=getO H' i:=by
 cases md with
 | pure=>
  simp only [evM] at he ⊢
  rw [qeH o] at he
  obtain⟨u,h1,he⟩:=zd.1 he
  cases he
  refine⟨h',?_,fun i hf=>hf.elim⟩
  rw [qeH o,h1];rfl
 | rd ids=>
  simp only [evM] at he ⊢
  rw [qeH o] at he
  obtain⟨u,h1,he⟩:=zd.1 he
  cases he
  refine⟨h',?_,fun i hf=>hf.elim⟩
  rw [qeH o,<- qjk (ha.len rfl) ha.get,h1];rfl
 | wr ids=>
  simp only [evM] at he ⊢
  have hof:=qjk (ids:=ids) (ha.len rfl) ha.get
  cases hS:isS o with
  | false=>
   rw [hS,cond_false] at he
   rw [cond_false]
   split at he
   ·rename_i f args hc
    obtain⟨g,caps,p,u,a,e1,e2,e3,e4,e5,e6,hl,e7,rfl,rfl⟩:=qps he
    have hl':(u a (onlyF (memN ids) 0 h')).length=h'.length:=by rw [<- hof,hl];exact ha.len rfl
    refine⟨mixF (memN ids) 0 (u a (onlyF (memN ids) 0 h')) h',?_,fun i hf=>?_⟩
    ·simp only [callS,e1,e2,<- hof,e3,Bool.and_self,cond_true,e4,e5,e6,Option.bind_some,p.spOk,e7]
     rw [show Nat.beq (u a (onlyF (memN ids) 0 h)).length h'.length=true by rw [hof,hl'];exact Nat.beq_refl _];rfl
    ·rw [qjT _ _ _ _ hl,qjT _ _ _ _ hl',Nat.zero_add,zH (show memN ids i=true from hf),zH (show memN ids i=true from hf),hof]
   ·rw [<- hof]
    split at he
    ·rename_i p hp
     split at he
     ·rename_i hg
      obtain⟨hi,he⟩:=qc he
      have hi':=hi
      simp only [zB] at hi'
      cases he
      have hg':getO h' (ids.headD 0)=.none:=by rw [<- ha.get _ hi'.1,hg]
      refine⟨(qO p.1 h').set (ids.headD 0) p.2,?_,fun i hf=>qdF (by rw [qaL,qaL];exact ha.len rfl) (qeF p.1 (ha.len rfl) i (ha.get i hf))⟩
      simp only [hg',<- ha.len rfl,hi,cond_true]
     ·cases he
    ·split at he
     ·rename_i p hp
      obtain⟨hi,he⟩:=qc he
      cases he
      exact⟨h'.set p.2.2.1 p.2.2.2,by simp only [hi,cond_true],fun i hf=>qdF (ha.len rfl) (ha.get i hf)⟩
     ·cases he
  | true=>
  rw [hS,cond_true] at he
  rw [qeG o] at he
  obtain⟨⟨u,ss,mk⟩,h1,he⟩:=zd.1 he
  cases mk with
  | some x=>cases he
  | none=>
   simp only at he
   obtain⟨hi,he⟩:=qc he
   cases he
   refine⟨qO ss h',?_,fun i hf=>qeF ss (ha.len rfl) i (ha.get i hf)⟩
   rw [cond_true,qeG o,<- qjk (ha.len rfl) ha.get,h1]
   simp only [Option.bind_some,hi,cond_true]
 | new id=>
  simp only [evM] at he ⊢
  cases hS:isS o with
  | true=>
   rw [hS,cond_true,qeG o] at he
   obtain⟨⟨u,ss,mk⟩,h1,he⟩:=zd.1 he
   cases ss with
   | cons p ss=>cases he
   | nil=>
    cases mk with
    | none=>cases he
    | some x=>
     simp only at he
     cases hg:getO h id with
     | none=>
      rw [hg] at he
      simp only at he
      obtain⟨hlt,he⟩:=qc he
      cases he
      have hg':getO h' id=.none:=by rw [<- ha.get id rfl,hg]
      refine⟨h'.set id x,?_,fun i hf=>?_⟩
      ·rw [cond_true,qeG o,h1]
       simp only [Option.bind_some,hg',<- ha.len rfl,hlt,cond_true]
      ·exact qdF (ha.len rfl) (ha.get i hf)
     | cells vs=>rw [hg] at he;cases he
     | nst _ _ _=>rw [hg] at he;cases he
     | kds _ _ _ _ _=>rw [hg] at he;cases he
     | gone=>rw [hg] at he;cases he
     | oth fz q d=>rw [hg] at he;cases he
     | row fz ver e s xs=>rw [hg] at he;cases he
  | false=>
   rw [hS,cond_false] at he
   rw [cond_false]
   split at he
   ·rename_i f args hc
    rw [qih] at he
    obtain⟨x,h1,he⟩:=zd.1 he
    cases hg:getO h id with
    | none=>
     rw [hg] at he
     simp only at he
     obtain⟨hlt,he⟩:=qc he
     cases he
     have hg':getO h' id=.none:=by rw [<- ha.get id rfl,hg]
     refine⟨h'.set id x,?_,fun i hf=>?_⟩
     ·rw [qih,h1]
      simp only [Option.bind_some,hg',<- ha.len rfl,hlt,cond_true]
     ·exact qdF (ha.len rfl) (ha.get i hf)
    | cells vs=>rw [hg] at he;cases he
    | nst _ _ _=>rw [hg] at he;cases he
    | kds _ _ _ _ _=>rw [hg] at he;cases he
    | gone=>rw [hg] at he;cases he
    | oth fz q d=>rw [hg] at he;cases he
    | row fz ver e s xs=>rw [hg] at he;cases he
   ·cases he
 | full=>
  have:h=h':=qki (ha.len rfl) fun i=>ha.get i trivial
  subst this
  exact⟨H,he,fun _ _=>rfl⟩
theorem qjV{a b:List Nat}(hd:disj a b=true){i:Nat}(ha:memN a i=true)(hb:memN b i=true):False:=by
 unfold memN at ha
 obtain⟨x,hx,he⟩:=zBG.1 ha
 have he:=zA he
 subst he
 have:=zo.1 hd i hx
 simp [hb] at this
theorem qwv{a b:Md}(hm:mdOk a b=true):(∀ i,a.foot i->¬ b.sees i)/\(∀ i,b.foot i->¬ a.sees i)/\(a.isFull=true->b.isPure=true)/\(b.isFull=true->a.isPure=true):=by
 have hne:∀ {ids:List Nat} {j:Nat},(!memN ids j)=true->memN ids j=true->False:=fun {ids j} h1 h2=>by simp [h2] at h1
 cases a <;> cases b <;> simp only [mdOk,zB,zx] at hm <;>
  refine⟨fun i hf hs=>?_,fun i hf hs=>?_,fun hh=>?_,fun hh=>?_⟩ <;>
  simp only [Md.foot,Md.sees,Md.isFull,Md.isPure,zx] at * <;>
  first
   | (subst hf;subst hs;simp at hm;done)
   | (subst hf;exact hne hm hs)
   | (subst hs;exact hne hm hf)
   | exact qjV hm hf hs
   | exact qjV hm hs hf
   | exact qjV hm.1 hf hs
   | exact qjV hm.1 hs hf
end
end Go.Abs
namespace Go.Abs
section
variable {ρ : Type} {C : Ctx} {all : List Oper}
abbrev S:=(Nat->V)×List O
def upd(dst:Option Tmp)(v:V)(t:Nat->V):Nat->V:=
 match dst with
 | none=>t
 | some d=>fun i=>bif Nat.beq d i then v else t i
def okDst(n:Nat):Option Tmp->Bool
 | none=>true
 | some d=>Nat.blt d n
def actA(C:Ctx)(all:List Oper)(o:Oper)(md:Md)(t:Nat->V)(h:List O):Option (V×List O):=
 match o.guard with
 | none=>evM C o.op t h md two
 | some (j,want)=>
  match dstOf all j with
  | none=>none
  | some d=>
   match t d with
   | .bool b=>if b=want then evM C o.op t h md two else some (.undef,h)
   | .undef=>some (.undef,h)
   | _=>none
def stepA(C:Ctx)(all:List Oper)(x:Oper×Md)(s:S):Option S:=
 bif okDst C.n x.1.dst then (actA C all x.1 x.2 s.1 s.2).map fun p=>(upd x.1.dst p.1 s.1,p.2) else none
def runA(C:Ctx)(all:List Oper):List (Oper×Md)->S->Option S
 | [],s=>some s
 | x :: r,s=>(stepA C all x s).bind (runA C all r)
def zipM:List Oper->List Md->List (Oper×Md)
 | [],_=>[]
 | o :: r,mds=>(o,mds.headD .full) :: zipM r mds.tail
theorem qrM(d:Nat)(v:V)(t:Slots):look ((d,v) :: t)=upd (some d) v (look t):=rfl
theorem upd_same{t:Nat->V}{d:Nat}{v:V}(h:t d=v):upd (some d) v t=t:=by
 funext i
 simp only [upd]
 cases hb:Nat.beq d i with
 | false=>rfl
 | true=>have:=zA hb;subst this;exact h.symm
theorem qpT{n:Nat}{dst:Option Tmp}{v:V}{t:Slots}{K:Slots->Option ρ}{res:ρ}(h:putD n dst v t K=some res):okDst n dst=true/\∃ t',look t'=upd dst v (look t)/\K t'=some res:=by
 cases dst with
 | none=>exact⟨rfl,t,rfl,h⟩
 | some d=>
  simp only [putD] at h
  obtain⟨h1,h2⟩:=qc h
  exact⟨h1,_,qrM d v t,h2⟩
theorem qio:(r:List Oper)->(mds:List Md)->(t:Slots)->(h:List O)->(K:Slots->List O->Option ρ) -> {res:ρ}->opsK C all r mds t h K=some res ->
  ∃ t' h',runA C all (zipM r mds) (look t,h)=some (look t',h')/\K t' h'=some res
 | [],mds,t,h,K,res,hk=>⟨t,h,rfl,hk⟩
 | o :: r,mds,t,h,K,res,hk=>by
  have fin:∀ {v:V} {t1:Slots} {H:List O},look t1=look t->actA C all o (mds.headD .full) (look t) h=some (v,H) ->
    putD C.n o.dst v t1 (fun t=>opsK C all r mds.tail t H K)=some res->∃ t' h',runA C all (zipM (o :: r) mds) (look t,h)=some (look t',h')/\K t' h'=some res:=by
   intro v t1 H e1 e2 e3
   obtain⟨h1,t2,h2,h3⟩:=qpT e3
   obtain⟨t3,h4,h5,h6⟩:=qio r mds.tail t2 H K h3
   refine⟨t3,h4,?_,h6⟩
   simp only [zipM,runA,stepA,h1,cond_true,e2,Option.map_some,Option.bind_some]
   rw [<- e1,<- h2];exact h5
  have evd:∀ {t1:Slots},look t1=look t->evM C o.op (look t1) h (mds.headD .full) (fun v h=>putD C.n o.dst v t1 fun t=>opsK C all r mds.tail t h K)=some res ->
    ∃ v H,evM C o.op (look t) h (mds.headD .full) two=some (v,H)/\putD C.n o.dst v t1 (fun t=>opsK C all r mds.tail t H K)=some res:=by
   intro t1 e1 e2
   rw [qzx] at e2
   obtain⟨⟨v,H⟩,h1,h2⟩:=zd.1 e2
   rw [e1] at h1
   exact⟨v,H,h1,h2⟩
  simp only [opsK] at hk
  cases hg:o.guard with
  | none=>
   rw [hg] at hk
   simp only at hk
   obtain⟨v,H,h1,h2⟩:=evd rfl hk
   exact fin rfl (by simp only [actA,hg];exact h1) h2
  | some gw=>
   obtain⟨j,want⟩:=gw
   rw [hg] at hk
   simp only at hk
   cases hd:dstOf all j with
   | none=>rw [hd] at hk;cases hk
   | some d=>
    rw [hd] at hk
    simp only at hk
    cases ht:look t d with
    | bool b=>
     rw [ht] at hk
     simp only at hk
     have hup:look ((d,.bool b) :: t)=look t:=by rw [qrM,upd_same ht]
     cases b with
     | true=>
      simp only [cond_true] at hk
      cases want with
      | true=>
       simp only [cond_true] at hk
       obtain⟨v,H,h1,h2⟩:=evd hup hk
       exact fin hup (by simp only [actA,hg,hd,ht,if_true];exact h1) h2
      | false=>
       simp only [cond_false] at hk
       exact fin hup (by simp [actA,hg,hd,ht]) hk
     | false=>
      simp only [cond_false] at hk
      cases want with
      | true=>
       simp only [cond_true] at hk
       exact fin hup (by simp [actA,hg,hd,ht]) hk
      | false=>
       simp only [cond_false] at hk
       obtain⟨v,H,h1,h2⟩:=evd hup hk
       exact fin hup (by simp only [actA,hg,hd,ht,if_true];exact h1) h2
    | undef=>
     rw [ht] at hk
     exact fin rfl (by simp [actA,hg,hd,ht]) hk
    | _=>rw [ht] at hk;cases hk
theorem qiC{o:Oper}{md:Md}{t t':Nat->V}{h:List O}(hs:∀ i∈reads all o,t i=t' i):actA C all o md t h=actA C all o md t' h:=by
 have h1:Same t t' o.op:=fun i hi=>hs i (zV _ hi)
 have h2:=qxb (C:=C) (h:=h) h1 md two
 unfold actA
 cases hg:o.guard with
 | none=>exact h2
 | some gw=>
  obtain⟨j,want⟩:=gw
  simp only
  cases hd:dstOf all j with
  | none=>rfl
  | some d=>
   have:=hs d (za _ (by simp [qut,hg,hd]))
   simp only [this,h2]
theorem qnn{md:Md}{i:Nat}(h:md.foot i):md.sees i:=by
 cases md <;> simp_all [Md.foot,Md.sees]
theorem qku{o:Oper}{md:Md}{t:Nat->V}{h:List O}{v:V}{H:List O}(he:actA C all o md t h=some (v,H)):(∀ i,¬ md.foot i->getO H i=getO h i)/\(md.isFull=false->H.length=h.length):=by
 unfold actA at he
 split at he
 ·exact quA he
 ·split at he
  ·cases he
  ·split at he
   ·split at he
    ·exact quA he
    ·cases he;exact⟨fun _ _=>rfl,fun _=>rfl⟩
   ·cases he;exact⟨fun _ _=>rfl,fun _=>rfl⟩
   ·cases he
theorem quK{o:Oper}{md:Md}{t:Nat->V}{h h':List O}{v:V}{H:List O}(ha:Agree md h h')(he:actA C all o md t h=some (v,H)) :
  ∃ H',actA C all o md t h'=some (v,H')/\∀ i,md.foot i->getO H i=getO H' i:=by
 unfold actA at he ⊢
 split at he
 ·exact qxa ha he
 ·split at he
  ·cases he
  ·split at he
   ·split at he
    ·rename_i hb;subst hb
     simp only [if_true]
     exact qxa ha he
    ·rename_i hb
     cases he;exact⟨h',by simp [hb],fun i hf=>ha.get i (qnn hf)⟩
   ·cases he;exact⟨h',rfl,fun i hf=>ha.get i (qnn hf)⟩
   ·cases he
theorem qmd{l:List Nat}{i:Nat}:memN l i=true↔i∈l:=by
 unfold memN
 rw [zBG]
 exact⟨fun ⟨x,h1,h2⟩=>by rw [zA h2];exact h1,fun h=>⟨i,h,Nat.beq_refl i⟩⟩
theorem qjD{dst:Option Tmp}{l:List Nat}(h:notIn dst l=true){v:V}{t:Nat->V}:∀ i∈l,t i=upd dst v t i:=by
 intro i hi
 cases dst with
 | none=>rfl
 | some d=>
  simp only [upd]
  cases hb:Nat.beq d i with
  | false=>rfl
  | true=>
   have:=zA hb;subst this
   simp only [notIn,qmd.2 hi] at h;cases h
theorem qtN{a b:Option Tmp}(h:qvD a b=true){u v:V}{t:Nat->V}:upd a u (upd b v t)=upd b v (upd a u t):=by
 cases a with
 | none=>rfl
 | some x=>
  cases b with
  | none=>rfl
  | some y=>
   funext i
   simp only [upd]
   cases hx:Nat.beq x i with
   | false=>rfl
   | true=>
    cases hy:Nat.beq y i with
    | false=>rfl
    | true=>
     have e1:=zA hx;have e2:=zA hy
     subst e1;subst e2
     simp [qvD,Nat.beq_refl] at h
theorem qgx{x:Oper×Md}{s s':S}(h:stepA C all x s=some s'):okDst C.n x.1.dst=true/\∃ v H,actA C all x.1 x.2 s.1 s.2=some (v,H)/\s'=(upd x.1.dst v s.1,H):=by
 unfold stepA at h
 obtain⟨h1,h2⟩:=qc h
 obtain⟨⟨v,H⟩,h3,h4⟩:=zAf.1 h2
 exact⟨h1,v,H,h3,h4.symm⟩
theorem qix{k v:Sh}{x:k.den}{es:Ents k v}{e:Int×(k.den×v.den)}:entOf k v x (es ++ [e])=match entOf k v x es with | some r=>some r | none=>bif eqD k x e.2.1 then some e else none:=by
 induction es with
 | nil=>rfl
 | cons f r ih=>
  simp only [List.cons_append,entOf]
  cases eqD k x f.2.1 with
  | true=>rfl
  | false=>simp only [cond_false];exact ih
theorem qwo{k v:Sh}(d:Mp k v)(y x:k.den):mpGet k v (mpEnt k v d y) x=mpGet k v d x:=by
 unfold mpEnt
 cases mpHas k v d y with
 | true=>rfl
 | false=>
  simp only [cond_false,mpGet,qix]
  cases entOf k v x d.2 with
  | some r=>rfl
  | none=>
   simp only
   cases eqD k x y <;> rfl
theorem qwx{T:List (Nat×TE)}{h:List O}{ids:List Nat}{oi:Nat}{q:Oth}{d:q.sh.den}{y:q.k.den}(eo:getO h oi=.oth false q d){ty:TypeId}{u:V}{ob:Nat}{fz:Bool}{p:Σ q:Oth,q.sh.den}
  (hat:mapAt T (onlyF (memN ids) 0 h) ty u=some (ob,fz,p)) :
  ∃ fz' d',mapAt T (onlyF (memN ids) 0 (h.set oi (.oth false q (mpEnt q.k q.v d y)))) ty u=some (ob,fz',⟨p.1,d'⟩)/\∀ x,mpGet p.1.k p.1.v d' x=mpGet p.1.k p.1.v p.2 x:=by
 have hlt:=qN (h:=h) (i:=oi) (by rw [eo];simp)
 unfold mapAt at hat ⊢
 cases hq:mapTy T ty with
 | none=>rw [hq] at hat;cases hat
 | some q0=>
  rw [hq] at hat
  simp only at hat ⊢
  cases u with
  | ptr o1 off=>
   simp only at hat ⊢
   rw [qex,Nat.zero_add] at hat ⊢
   cases hmem:memN ids o1 with
   | false=>rw [hmem] at hat;simp at hat
   | true=>
    rw [hmem] at hat
    simp only [if_true] at hat ⊢
    rw [qL hlt]
    by_cases e:oi=o1
    ·subst e
     rw [zH rfl]
     rw [eo] at hat
     simp only at hat ⊢
     obtain⟨c1,c2⟩:=qc hat
     simp only [zC,zN] at c2
     obtain⟨rfl,rfl,rfl⟩:=c2
     rw [c1]
     exact⟨_,_,rfl,fun x=>qwo d y x⟩
    ·rw [zK e]
     exact⟨fz,p.2,hat,fun x=>rfl⟩
  | _=>cases hat
theorem qwh{T:List (Nat×TE)}{h:List O}{ids:List Nat}{oi:Nat}{q:Oth}{d d':q.sh.den}(eo:getO h oi=.oth false q d){ty:TypeId}{u:V}{p:Nat×Nat×(Σ q:Nst,q.sh.den)}
  (hat:nstAt T (onlyF (memN ids) 0 h) ty u=some p):nstAt T (onlyF (memN ids) 0 (h.set oi (.oth false q d'))) ty u=some p:=by
 have hlt:=qN (h:=h) (i:=oi) (by rw [eo];simp)
 unfold nstAt at hat ⊢
 cases hq:qlq T ty with
 | none=>rw [hq] at hat;cases hat
 | some q0=>
  rw [hq] at hat
  cases u with
  | ptr o1 off=>
   simp only at hat ⊢
   rw [qex,Nat.zero_add] at hat ⊢
   cases hmem:memN ids o1 with
   | false=>rw [hmem] at hat;simp at hat
   | true=>
    rw [hmem] at hat
    simp only [if_true] at hat ⊢
    rw [qL hlt]
    by_cases e:oi=o1
    ·subst e;rw [eo] at hat;cases hat
    ·rw [zK e];exact hat
  | _=>cases hat
theorem qqA{x y:Oper×Md}(hsw:qtu x.1 x.2 y.1 y.2=true){t:Nat->V}{h H1 H2:List O}{va vb:V}(e1:actA C all x.1 x.2 t h=some (va,H1))(e2:actA C all y.1 y.2 t H1=some (vb,H2)) :
  actA C all y.1 y.2 t h=some (vb,H2)/\actA C all x.1 x.2 t H2=some (va,H2):=by
 obtain⟨a,ma⟩:=x
 obtain⟨b,mb⟩:=y
 unfold qtu at hsw
 simp only at hsw e1 e2 ⊢
 split at hsw
 case h_2=>cases hsw
 rename_i ty m k hop
 split at hsw
 ·cases hsw
 rename_i hga
 split at hsw
 case h_2=>cases hsw
 rename_i ty' m' k' hop'
 split at hsw
 ·cases hsw
 rename_i hgb
 split at hsw
 case h_2=>cases hsw
 rename_i ids
 split at hsw
 case h_2=>cases hsw
 rename_i ids'
 unfold actA at e1 e2 ⊢
 rw [hga] at e1 ⊢
 rw [hgb] at e2 ⊢
 simp only [evM,hop,hop',evR,isS,cond_true,evS] at e1 e2 ⊢
 have hH1:h=H1:=by
  split at e1
  ·rw [qhY] at e1
   obtain⟨v,-,e⟩:=zd.1 e1
   cases e;rfl
  ·rw [qmW] at e1
   obtain⟨v,-,e⟩:=zd.1 e1
   cases e;rfl
 subst hH1
 refine⟨e2,?_⟩
 unfold qfp at e2
 split at e2
 ·cases e2
 rename_i oi fz' q' d' hat'
 rcases fz' with _ | _
 case true=>cases e2
 simp only [cond_false] at e2
 split at e2
 ·cases e2
 rename_i z' hz'
 obtain⟨c2,e2⟩:=qc e2
 simp only [two,zC,zN,qO] at e2
 obtain⟨-,rfl⟩:=e2
 have eo:getO h oi=.oth false q' d':=by
  unfold mapAt at hat'
  split at hat'
  ·cases hat'
  ·rename_i q0 _
   cases hu:ev t m' with
   | ptr o1 off=>
    rw [hu] at hat'
    simp only at hat'
    rw [qex,Nat.zero_add] at hat'
    cases hmem:memN ids' o1 with
    | false=>rw [hmem] at hat';simp at hat'
    | true=>
     rw [hmem] at hat'
     simp only [if_true] at hat'
     cases eo:getO h o1 with
     | oth fz1 q1 d1=>
      rw [eo] at hat'
      simp only at hat'
      obtain⟨_,c⟩:=qc hat'
      simp only [zC,zN] at c
      obtain⟨rfl,rfl,c⟩:=c
      cases c
      exact eo
     | _=>rw [eo] at hat';cases hat'
   | _=>rw [hu] at hat';cases hat'
 split at e1
 ·rw [qhY] at e1 ⊢
  obtain⟨v,e1,e⟩:=zd.1 e1
  cases e
  have:qfY C (onlyF (memN ids) 0 (h.set oi (.oth false q' (mpEnt q'.k q'.v d' z')))) ty (ev t m) (ev t k) false some=some va:=by
   unfold qfY at e1 ⊢
   split at e1
   ·cases e1
   rename_i ob ver q d hat
   rw [qwh eo hat]
   exact e1
  rw [this];rfl
 unfold qjp at e1 ⊢
 split at e1
 ·cases e1
 rename_i ob fz q d hat
 split at e1
 ·cases e1
 rename_i z hz
 simp only [cond_false,two,zC,zN] at e1
 obtain⟨rfl,-⟩:=e1
 obtain⟨fz2,d2,hat2,hget⟩:=qwx (y:=z') eo hat
 rw [hat2]
 simp only [hz,cond_false,two]
 rw [hget]
theorem quP{x y:Oper×Md}(hsw:qrb all x.1 x.2 y.1 y.2=true){s s1 s2:S}(h1:stepA C all x s=some s1)(h2:stepA C all y s1=some s2) :
  ∃ s1',stepA C all y s=some s1'/\stepA C all x s1'=some s2:=by
 simp only [qrb,zB] at hsw
 obtain⟨⟨⟨hu,hxy⟩,hyx⟩,hm⟩:=hsw
 rw [zw] at hm
 rcases hm with hm | hm
 case inr=>
  obtain⟨o1,va,H1,e1,rfl⟩:=qgx h1
  obtain⟨o2,vb,H2,e2,rfl⟩:=qgx h2
  simp only at e2
  rw [<- qiC (qjD hxy)] at e2
  obtain⟨e3,e4⟩:=qqA hm e1 e2
  refine⟨(upd y.1.dst vb s.1,H2),?_,?_⟩
  ·simp only [stepA,o2,cond_true,e3,Option.map_some]
  ·rw [qiC (qjD hyx (v:=vb))] at e4
   simp only [stepA,o1,cond_true,e4,Option.map_some,qtN hu]
 obtain⟨m1,m2,m3,m4⟩:=qwv hm
 obtain⟨o1,va,H1,e1,rfl⟩:=qgx h1
 obtain⟨o2,vb,H2,e2,rfl⟩:=qgx h2
 simp only at e2
 rw [<- qiC (qjD hxy)] at e2
 obtain⟨f1,l1⟩:=qku e1
 obtain⟨f2,l2⟩:=qku e2
 have full_of:∀ {md:Md},md.isPure=false->md.isFull=true\/md.isFull=false:=fun {md} _=>by cases md.isFull <;> simp
 have pf:∀ {md:Md},md.isPure=true->∀ i,¬ md.foot i:=fun {md} hp i=>by cases md <;> simp_all [Md.isPure,Md.foot]
 have pnf:∀ {md:Md},md.isPure=true->md.isFull=false:=fun {md} hp=>by cases md <;> simp_all [Md.isPure,Md.isFull]
 have nfull:∀ {md md':Md},(md.isFull=true->md'.isPure=true)->md'.isPure=false->md.isFull=false:=fun {md md'} hh hp=>by
  cases hf:md.isFull with
  | false=>rfl
  | true=>rw [hh hf] at hp;cases hp
 have ag1:Agree y.2 H1 s.2:=⟨fun hp=>l1 (nfull m3 hp),fun i hs=>f1 i fun hf=>m1 i hf hs⟩
 obtain⟨H1',e3,g3⟩:=quK ag1 e2
 obtain⟨f3,l3⟩:=qku e3
 have ag2:Agree x.2 s.2 H1':=⟨fun hp=>(l3 (nfull m4 hp)).symm,fun i hs=>(f3 i fun hf=>m2 i hf hs).symm⟩
 obtain⟨H2',e4,g4⟩:=quK ag2 e1
 obtain⟨f4,l4⟩:=qku e4
 have hH:H2=H2':=by
  apply qki
  ·cases hx:x.2.isFull with
   | true=>
    have hp:=m3 hx
    have h12:H2.length=H1.length:=l2 (pnf hp)
    have hs1:s.2=H1':=(qki (l3 (pnf hp)) fun i=>f3 i (pf hp i)).symm
    rw [<- hs1,e1] at e4
    cases e4
    exact h12
   | false=>
    cases hy:y.2.isFull with
    | true=>
     have hp:=m4 hy
     have hs1:H1=s.2:=qki (l1 hx) fun i=>f1 i (pf hp i)
     rw [hs1,e3] at e2
     cases e2
     exact (l4 hx).symm
    | false=>rw [l2 hy,l1 hx,l4 hx,l3 hy]
  ·intro i
   by_cases hx:x.2.foot i
   ·rw [f2 i fun hf=>m1 i hx (qnn hf),g4 i hx]
   ·by_cases hy:y.2.foot i
    ·rw [g3 i hy,f4 i hx]
    ·rw [f2 i hy,f1 i hx,f4 i hx,f3 i hy]
 subst hH
 refine⟨(upd y.1.dst vb s.1,H1'),?_,?_⟩
 ·simp only [stepA,o2,cond_true,e3,Option.map_some]
 ·rw [qiC (qjD hyx (v:=vb))] at e4
  simp only [stepA,o1,cond_true,e4,Option.map_some,qtN hu]
theorem qnm:(pre:List (Oper×Md)) -> {x:Oper×Md} -> {post:List (Oper×Md)}->(∀ p∈pre,qrb all p.1 p.2 x.1 x.2=true) -> {s s':S} ->
  runA C all (pre++x :: post) s=some s'->∃ s1,stepA C all x s=some s1/\runA C all (pre++post) s1=some s'
 | [],x,post,hp,s,s',h=>by
  obtain⟨s1,h1,h2⟩:=zd.1 h
  exact⟨s1,h1,h2⟩
 | p :: pre,x,post,hp,s,s',h=>by
  obtain⟨s1,h1,h2⟩:=zd.1 h
  obtain⟨s2,h3,h4⟩:=qnm pre (fun q hq=>hp q (by simp [hq])) h2
  obtain⟨s1',h5,h6⟩:=quP (hp p (by simp)) h1 h3
  refine⟨s1',h5,?_⟩
  simp only [List.cons_append,runA,h6,Option.bind_some]
  exact h4
end
end Go.Abs
