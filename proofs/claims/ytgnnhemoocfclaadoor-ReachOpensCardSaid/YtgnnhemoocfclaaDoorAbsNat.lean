import Derived.Test.YtgnnhemoocfclaaDoorAbsOpsS
namespace Go.Abs
section
variable {ρ : Type} {C : Ctx} {h : List O} {t t' : Nat -> V}
theorem qi{α β:Type}(b:Bool)(x y:Option α)(K:α->Option β):(bif b then x else y).bind K=bif b then x.bind K else y.bind K:=by cases b <;> rfl
theorem qxv(op:BinOp)(k:IntKind)(x y:Int)(K:V->Option ρ):qqX op k x y K=(qqX op k x y some).bind K:=by
 cases op <;> simp only [qqX,qi,Option.bind_some,Option.bind_none]
theorem qvr(op:BinOp)(x y:Bool)(K:V->Option ρ):qsm op x y K=(qsm op x y some).bind K:=by
 cases op <;> rfl
theorem qxu(op:BinOp)(ty:TypeId)(x y:V)(K:V->Option ρ):qik C op ty x y K=(qik C op ty x y some).bind K:=by
 cases x <;> cases y <;> simp only [qik,qi,Option.bind_none]
 ·rw [qxv];split <;> simp [Option.bind_none]
 ·rw [qvr]
 ·unfold nilOp
  split
  ·rfl
  ·cases op <;> rfl
 ·unfold qww
  split
  ·rfl
  ·rw [qi]
   congr 1
   split
   ·rfl
   ·split
    ·rfl
    ·split
     ·rfl
     ·split <;> rfl
theorem qxE(op:UnOp)(x:V)(K:V->Option ρ):unOpK op x K=(unOpK op x some).bind K:=by
 cases x <;> cases op <;> rfl
theorem qyo(ty:TypeId)(a:V)(K:V->Option ρ):loadK C h ty a K=(loadK C h ty a some).bind K:=by
 unfold loadK
 split
 ·rfl
 ·split
  ·rfl
  ·rw [qi];rfl
theorem qnd(size:Nat)(agg:Bool)(vs:List V)(i:Int)(K:V->Option ρ):(n j:Nat)->qhl size agg vs i K n j=(qhl size agg vs i some n j).bind K
 | 0,j=>rfl
 | n+1,j=>by simp only [qhl,qi,Option.bind_some];rw [qnd _ _ _ _ _ n]
theorem qms{α β:Type}(x:Option Operand)(d:Int)(K:Int->Option α)(L:α->Option β):(qgu t x d K).bind L=qgu t x d (fun y=>(K y).bind L):=by
 unfold qgu
 split
 ·rfl
 ·split <;> rfl
theorem qxr(ty:TypeId)(ps:List (Nat×Operand))(K:V->Option ρ):qpk C t ty ps K=(qpk C t ty ps some).bind K:=by
 unfold qpk
 repeat' (first | rfl | split)
theorem qpZ(ty:TypeId)(x:V)(f:Nat)(K:V->Option ρ):qgl C h ty x f K=(qgl C h ty x f some).bind K:=by
 unfold qgl
 split
 ·rfl
 ·split
  ·split
   ·rfl
   ·rw [qi]
    cases x <;> simp only [qi,Option.bind_some,Option.bind_none]
    split <;> rfl
  ·rfl
theorem qxk(ty:TypeId)(x:V)(f:Nat)(K:V->Option ρ):qqG C ty x f K=(qqG C ty x f some).bind K:=by
 unfold qqG
 split
 ·rfl
 ·split
  ·split
   ·rfl
   ·split
    ·rfl
    ·cases x <;> simp only [qi,Option.bind_some,Option.bind_none]
  ·rfl
theorem qoJ(ty:TypeId)(x i:V)(K:V->Option ρ):qfb C h ty x i K=(qfb C h ty x i some).bind K:=by
 unfold qfb
 split
 ·rfl
 ·cases i <;> simp only [Option.bind_none]
  cases x <;> simp only [qi,Option.bind_some,Option.bind_none]
  all_goals split <;> simp only [qi,Option.bind_some,Option.bind_none]
theorem qpY(ty:TypeId)(x i:V)(K:V->Option ρ):qgk C h ty x i K=(qgk C h ty x i some).bind K:=by
 unfold qgk
 split
 ·cases i <;> simp only [Option.bind_none]
  cases x <;> simp only [qi,Option.bind_some,Option.bind_none]
 ·exact qoJ ty x i K
theorem qxg(ty:TypeId)(x i:V)(K:V->Option ρ):qqC C ty x i K=(qqC C ty x i some).bind K:=by
 unfold qqC
 split
 ·rfl
 ·split
  ·split
   ·rfl
   ·cases i <;> simp only [Option.bind_none]
    cases x <;> simp only [qi,Option.bind_none]
    rw [qnd]
  ·rfl
theorem qrR(ty:TypeId)(s:ByteArray)(i:V)(K:V->Option ρ):qjt C ty s i K=(qjt C ty s i some).bind K:=rfl
theorem quD(ty:TypeId)(x:V)(lo hi:Option Operand)(K:V->Option ρ):qmp C ty x lo hi K=(qmp C ty x lo hi some).bind K:=by
 unfold qmp
 split
 ·rfl
 ·split
  ·rfl
  ·split
   ·rfl
   ·split
    ·rw [qi];rfl
    ·rfl
theorem quC(ty:TypeId)(s:Sh)(y:s.den)(lo hi:Option Operand)(K:V->Option ρ):qkI C t ty s y lo hi K=(qkI C t ty s y lo hi some).bind K:=by
 unfold qkI
 split
 ·rfl
 split
 ·rfl
 split
 ·rfl
 rw [qi]
 congr 1
 split
 ·rfl
 ·simp only [qms,qi,Option.bind_none,Option.bind_some]
theorem qwS(ty:TypeId)(x:V)(lo hi:Option Operand)(K:V->Option ρ):qoc C h t ty x lo hi K=(qoc C h t ty x lo hi some).bind K:=by
 unfold qoc
 split
 ·split
  ·exact quC _ _ _ _ _ _
  ·exact quD _ _ _ _ _
 ·cases x <;> (try simp only [qi,Option.bind_none,qms,Option.bind_some])
  cases hi with
  | some _=>rfl
  | none=>
   simp only
   split
   ·simp only [qi,Option.bind_none,qms,Option.bind_some]
   ·rfl
theorem qAe(ty:TypeId)(x:V)(K:V->Option ρ):lenK C h ty x K=(lenK C h ty x some).bind K:=by
 unfold lenK
 repeat' (first | rfl | split)
theorem qor(m:Bool)(vs:List V)(K:V->Option ρ):qkO m vs K=(qkO m vs some).bind K:=by
 unfold qkO
 repeat' (first | rfl | split)
theorem qxp(f:V)(args:List V)(K:V->Option ρ):qqV C h f args K=(qqV C h f args some).bind K:=by
 unfold qqV
 split
 ·split
  ·rfl
  ·split
   ·rename_i p _ _ _
    simp only [p.spOk]
    cases p.r <;> rfl
   ·rfl
 ·rfl
theorem qud(s d:TypeId)(x:V)(K:V->Option ρ):qjW C s d x K=(qjW C s d x some).bind K:=by
 unfold qjW
 repeat' (first | rfl | split)
theorem qxW(c a b:V)(K:V->Option ρ):pickK c a b K=(pickK c a b some).bind K:=by
 cases c <;> simp only [pickK,qi,Option.bind_some,Option.bind_none]
theorem qrG(x:V)(K:V->Option ρ):qdX h x K=(qdX h x some).bind K:=by
 cases x <;> simp only [qdX,qi,Option.bind_some,Option.bind_none]
theorem qtQ(x:V)(i:Nat)(K:V->Option ρ):qiF x i K=(qiF x i some).bind K:=by
 unfold qiF
 repeat' (first | rfl | split)
theorem qoB(ty:TypeId)(x i:V)(ok:Bool)(K:V->Option ρ):qmw C h ty x i ok K=(qmw C h ty x i ok some).bind K:=by
 unfold qmw
 split
 ·rfl
 ·split
  ·rfl
  ·rw [qi];rfl
theorem qnb(ty:TypeId)(x i:V)(ok:Bool)(K:V->Option ρ):qlG C h ty x i ok K=(qlG C h ty x i ok some).bind K:=rfl
theorem qyv(x:V)(K:V->Option ρ):lenNK h x K=(lenNK h x some).bind K:=rfl
theorem qxl(x:V)(K:V->Option ρ):qtW h x K=(qtW h x some).bind K:=rfl
theorem qvc(ty:TypeId)(x:V)(K:V->Option ρ):qmy C h ty x K=(qmy C h ty x some).bind K:=by
 unfold qmy
 split
 ·split
  ·rfl
  ·exact qyv _ _
 ·rfl
theorem qzi(c:Call)(K:V->Option ρ):callR C t h c K=(callR C t h c some).bind K:=by
 unfold callR
 split
 ·split
  ·split
   ·split
    ·exact qvc _ _ _
    ·exact qAe _ _ _
   ·rfl
  ·exact qor _ _ _
  ·exact qor _ _ _
  ·rfl
 ·split
  ·rfl
  ·exact qxp _ _ _
theorem qgh(op:BinOp)(b:Bool)(K:V->Option ρ):qhV op b K=(qhV op b some).bind K:=by
 unfold qhV
 split <;> rfl
theorem quJ(op:BinOp)(ty:TypeId)(x:V)(K:V->Option ρ):qmr C op ty x K=(qmr C op ty x some).bind K:=by
 unfold qmr
 split
 ·rfl
 ·split
  ·split
   ·exact qgh _ _ _
   ·rw [qi,qgh];rfl
   ·exact qgh _ _ _
   ·rfl
  ·rfl
theorem quU(op:BinOp)(ty:TypeId)(x:V)(K:V->Option ρ):qmv C h op ty x K=(qmv C h op ty x some).bind K:=by
 unfold qmv
 split
 ·rfl
 ·split
  ·split
   ·exact qgh _ _ _
   ·split
    ·rw [qi,qgh];rfl
    ·rfl
   ·split
    ·rw [qi,qgh];rfl
    ·rfl
   ·rfl
  ·rfl
theorem qvf(op:BinOp)(ty:TypeId)(x:V)(K:V->Option ρ):qoK C op ty x K=(qoK C op ty x some).bind K:=rfl
theorem qwZ(ty:TypeId)(x:V)(K:V->Option ρ):qtp C ty x K=(qtp C ty x some).bind K:=rfl
theorem qfN(o:Op)(K:V->Option ρ):evR C o t h K=(evR C o t h some).bind K:=by
 unfold evR
 split
 ·rfl
 ·rfl
 ·exact qxW _ _ _ _
 ·split
  ·exact qvf _ _ _ _
  ·exact quJ _ _ _ _
  ·exact quU _ _ _ _
  ·exact qxu _ _ _ _ _
 ·exact qwZ _ _ _
 ·exact qxE _ _ _
 ·exact qud _ _ _ _
 ·exact qrG _ _
 ·exact qyo _ _ _
 ·exact qpZ _ _ _ _
 ·exact qxk _ _ _ _
 ·exact qpY _ _ _ _
 ·split
  ·exact qrR _ _ _ _
  ·exact qxg _ _ _ _
 ·exact qtQ _ _ _
 ·exact qxr _ _ _
 ·split
  ·simp only [qi,Option.bind_some,Option.bind_none]
  ·rfl
 ·split
  ·exact qwS _ _ _ _ _
  ·rfl
 ·split
  ·exact qnb _ _ _ _ _
  ·exact qoB _ _ _ _ _
 ·exact qxl _ _
 ·exact qzi _ _
 ·rfl
abbrev trip(v:V)(ss:List (Nat×O))(mk:Option O):Option (V×List (Nat×O)×Option O):=some (v,ss,mk)
theorem qpj(nid:Nat)(ty:TypeId)(n:Nat)(ps:List (Nat×Operand))(K:V->List (Nat×O)->Option O->Option ρ):qet C t h nid ty n ps K=(qet C t h nid ty n ps trip).bind fun p=>K p.1 p.2.1 p.2.2:=by
 unfold qet
 split
 ·rfl
 ·split
  ·rfl
  ·rw [qi]
   split
   ·rfl
   ·split <;> rfl
theorem qoz(nid:Nat)(ty:TypeId)(l c:V)(K:V->List (Nat×O)->Option O->Option ρ):qeY C nid ty l c K=(qeY C nid ty l c trip).bind fun p=>K p.1 p.2.1 p.2.2:=by
 unfold qeY
 split
 ·rfl
 ·split
  ·rfl
  ·cases l <;> simp only [Option.bind_none]
   cases c <;> simp only [qi,Option.bind_some,Option.bind_none]
theorem qpU(nid:Nat)(ty:TypeId)(l c:V)(t:Kt)(K:V->List (Nat×O)->Option O->Option ρ):qgi C nid ty l c t K=(qgi C nid ty l c t trip).bind fun p=>K p.1 p.2.1 p.2.2:=by
 unfold qgi
 split
 ·rfl
 ·split
  ·cases l <;> simp only [Option.bind_none]
   cases c <;> simp only [qi,Option.bind_some,Option.bind_none]
  ·rfl
theorem qpV(nid:Nat)(ty:TypeId)(l c:V)(K:V->List (Nat×O)->Option O->Option ρ):qgj C nid ty l c K=(qgj C nid ty l c trip).bind fun p=>K p.1 p.2.1 p.2.2:=by
 unfold qgj
 split
 ·exact qpU ..
 ·exact qoz ..
theorem qwO(ty:TypeId)(o ver i off:Nat)(v:V)(K:V->List (Nat×O)->Option O->Option ρ):qqp C h ty o ver i off v K=(qqp C h ty o ver i off v trip).bind fun p=>K p.1 p.2.1 p.2.2:=by
 unfold qqp
 split
 ·rfl
 ·split
  ·rw [qi]
   split
   ·rw [qi]
    split <;> rfl
   ·split
    ·rfl
    ·split
     ·rfl
     ·rw [qi];rfl
  ·rfl
theorem qnW(ty:TypeId)(a v:V)(K:V->List (Nat×O)->Option O->Option ρ):qkD C h ty a v K=(qkD C h ty a v trip).bind fun p=>K p.1 p.2.1 p.2.2:=by
 unfold qkD
 split
 ·rfl
 ·rw [qi]
  cases a <;> simp only [Option.bind_none]
  ·split <;> simp only [qi,Option.bind_some,Option.bind_none]
  ·split
   ·rw [qi]
    split <;> rfl
   ·rfl
theorem qwP(ty:TypeId)(a v:V)(K:V->List (Nat×O)->Option O->Option ρ):qqq C h ty a v K=(qqq C h ty a v trip).bind fun p=>K p.1 p.2.1 p.2.2:=by
 unfold qqq
 split
 ·split
  ·exact qwO ..
  ·exact qnW ..
 ·exact qnW ..
theorem qpo(nid:Nat)(ty:TypeId)(x y:V)(K:V->List (Nat×O)->Option O->Option ρ):qkZ C h nid ty x y K=(qkZ C h nid ty x y trip).bind fun p=>K p.1 p.2.1 p.2.2:=by
 unfold qkZ
 split
 ·rfl
 ·split
  ·rfl
  ·split
   ·rfl
   ·rw [qi]
    cases x <;> simp only [Option.bind_none,qi,Option.bind_some]
    split
    ·rw [qi]
     split
     ·rfl
     ·rw [qi];rfl
    ·rfl
theorem qnp(nid:Nat)(ty:TypeId)(x y:V)(K:V->List (Nat×O)->Option O->Option ρ):qiG C h nid ty x y K=(qiG C h nid ty x y trip).bind fun p=>K p.1 p.2.1 p.2.2:=by
 unfold qiG
 split
 ·rfl
 ·split
  ·rfl
  ·rw [qi]
   split
   ·rfl
   ·cases x <;> simp only [Option.bind_none,qi,Option.bind_some]
    split
    ·rw [qi]
     split
     ·rfl
     ·rw [qi];rfl
    ·rfl
theorem qvt(nid:Nat)(ty:TypeId)(x y:V)(K:V->List (Nat×O)->Option O->Option ρ):qmM C h nid ty x y K=(qmM C h nid ty x y trip).bind fun p=>K p.1 p.2.1 p.2.2:=by
 unfold qmM
 split
 ·exact qpo ..
 ·split
  ·exact qpo ..
  ·exact qnp ..
 ·exact qnp ..
theorem qza(ty:TypeId)(x y:V)(K:V->List (Nat×O)->Option O->Option ρ):copyK C h ty x y K=(copyK C h ty x y trip).bind fun p=>K p.1 p.2.1 p.2.2:=by
 unfold copyK
 split
 ·rfl
 ·split
  ·rfl
  ·split
   ·rfl
   ·cases x <;> simp only [Option.bind_none]
    ·split
     ·rw [qi]
      split <;> rfl
     ·rfl
    ·split
     ·rw [qi]
      split <;> rfl
     ·rfl
theorem qtt(nid:Nat)(ty:TypeId)(rs:Option V)(K:V->List (Nat×O)->Option O->Option ρ):qjP C nid ty rs K=(qjP C nid ty rs trip).bind fun p=>K p.1 p.2.1 p.2.2:=by
 unfold qjP
 split
 ·split
  ·rfl
  ·split <;> rfl
 ·split <;> rfl
theorem qow(ty:TypeId)(m k x:V)(K:V->List (Nat×O)->Option O->Option ρ):qgw C h ty m k x K=(qgw C h ty m k x trip).bind fun p=>K p.1 p.2.1 p.2.2:=rfl
theorem quI(nid:Nat)(ty:TypeId)(x:V)(K:V->List (Nat×O)->Option O->Option ρ):qom C h nid ty x K=(qom C h nid ty x trip).bind fun p=>K p.1 p.2.1 p.2.2:=rfl
theorem qox(ty:TypeId)(m k x:V)(K:V->List (Nat×O)->Option O->Option ρ):qgx C h ty m k x K=(qgx C h ty m k x trip).bind fun p=>K p.1 p.2.1 p.2.2:=rfl
theorem qkk(ty:TypeId)(m k x:V)(K:V->List (Nat×O)->Option O->Option ρ):qeX C h ty m k x K=(qeX C h ty m k x trip).bind fun p=>K p.1 p.2.1 p.2.2:=by
 unfold qeX
 split
 ·exact qox _ _ _ _ _
 ·rw [qi]
  congr 1
  split
  ·rfl
  ·split <;> rfl
theorem qrM(ty:TypeId)(m k:V)(K:V->List (Nat×O)->Option O->Option ρ):qhX C h ty m k K=(qhX C h ty m k trip).bind fun p=>K p.1 p.2.1 p.2.2:=rfl
theorem qpb(ty:TypeId)(m s x:V)(K:V->List (Nat×O)->Option O->Option ρ):qgO C h ty m s x K=(qgO C h ty m s x trip).bind fun p=>K p.1 p.2.1 p.2.2:=rfl
theorem qwV(nid:Nat)(ty:TypeId)(x:V)(K:V->List (Nat×O)->Option O->Option ρ):qth C h nid ty x K=(qth C h nid ty x trip).bind fun p=>K p.1 p.2.1 p.2.2:=rfl
theorem qvo(ty:TypeId)(m k:V)(K:V->List (Nat×O)->Option O->Option ρ):qmI C h ty m k K=(qmI C h ty m k trip).bind fun p=>K p.1 p.2.1 p.2.2:=by
 unfold qmI
 split
 ·rfl
 ·rw [qi]
  congr 1
  split <;> rfl
theorem qxn(ty:TypeId)(m:V)(K:V->List (Nat×O)->Option O->Option ρ):qqR C h ty m K=(qqR C h ty m trip).bind fun p=>K p.1 p.2.1 p.2.2:=by
 unfold qqR
 split
 ·rfl
 ·rw [qi];rfl
theorem qsk(ty:TypeId)(m:V)(K:V->List (Nat×O)->Option O->Option ρ):qij C h ty m K=(qij C h ty m trip).bind fun p=>K p.1 p.2.1 p.2.2:=by
 unfold qij
 repeat' (first | rfl | split | rw [qi];congr 1)
theorem qfM(o:Op)(nid:Nat)(K:V->List (Nat×O)->Option O->Option ρ):evS C o t h nid K=(evS C o t h nid trip).bind fun p=>K p.1 p.2.1 p.2.2:=by
 unfold evS
 split
 ·split <;> rfl
 ·rw [qi];rfl
 ·exact qpj _ _ _ _ _
 ·exact qpV _ _ _ _ _
 ·exact qwP _ _ _ _
 ·exact qtt _ _ _ _
 ·split
  ·exact qow _ _ _ _ _
  ·exact qkk _ _ _ _ _
 ·exact qkk _ _ _ _ _
 ·exact qrM _ _ _ _
 ·exact qpb _ _ _ _ _
 ·split
  ·exact quI _ _ _ _
  ·exact qwV _ _ _ _
 ·rw [qi]
  congr 1
  ·split
   ·exact qvo _ _ _ _
   ·rfl
  rw [qi]
  congr 1
  ·split
   ·split
    ·exact qxn _ _ _
    ·exact qsk _ _ _
   ·rfl
  split
  ·rw [qi,qi,qvt,qza];rfl
  ·rfl
 ·rfl
abbrev two(v:V)(h:List O):Option (V×List O):=some (v,h)
theorem qxq(f o ver:Nat)(q:Nst)(d:q.sh.den)(i:Nat)(args:List V)(K:V->List O->Option ρ):quj C h f o ver q d i args K=(quj C h f o ver q d i args two).bind fun p=>K p.1 p.2:=rfl
theorem qxo(f:V)(args:List V)(K:V->List O->Option ρ):qug C h f args K=(qug C h f args two).bind fun p=>K p.1 p.2:=by
 unfold qug
 split
 ·split
  ·rename_i p _
   simp only [p.spOk]
   cases p.r <;> rfl
  ·split
   ·exact qxq _ _ _ _ _ _ _ _
   ·rfl
 ·rfl
theorem qxt(o:Op)(K:V->List O->Option ρ)(K':Option ρ)(K2:Option (V×List O))(hk:K'=K2.bind fun p=>K p.1 p.2):qqW C o t h K K'=(qqW C o t h two K2).bind fun p=>K p.1 p.2:=hk
theorem qBw(o:Op)(K:V->List O->Option ρ):evW C o t h K=(evW C o t h two).bind fun p=>K p.1 p.2:=by
 unfold evW
 rw [qi]
 congr 1
 ·rw [qfM o h.length (fun v ss mk=>K v (qZ ss h++mk.toList)),qfM o h.length (fun v ss mk=>two v (qZ ss h++mk.toList))]
  cases evS C o t h h.length trip <;> rfl
 ·split
  ·exact qxo _ _ _
  split
  ·rfl
  split
  ·rw [qi];rfl
  ·refine qxt _ _ _ _ ?_
   rw [qfN o (fun v=>K v h),qfN o (fun v=>two v h)]
   cases evR C o t h some <;> rfl
theorem qjB(f:V)(args:List V)(K:O->Option ρ):callN C f args K=(callN C f args some).bind K:=by
 unfold callN
 split
 ·rw [qi]
  congr 1
  split
  ·rfl
  ·split
   ·rfl
   ·rename_i p _ _ _ _
    simp only [p.spOk]
    cases p.r with
    | none=>rfl
    | some a=>
     simp only [Option.bind_some]
     split <;> rfl
 ·rfl
theorem qzh(ids:List Nat)(f:V)(args:List V)(K:V->List O->Option ρ):callS C h ids f args K=(callS C h ids f args two).bind fun p=>K p.1 p.2:=by
 unfold callS
 split
 ·rw [qi]
  congr 1
  split
  ·rfl
  ·split
   ·rfl
   ·rename_i p _ _ _ _
    simp only [p.spOk]
    cases p.r with
    | none=>rfl
    | some a=>simp only [Option.bind_some,qi];rfl
 ·rfl
theorem qBy(o:Op)(md:Md)(K:V->List O->Option ρ):evM C o t h md K=(evM C o t h md two).bind fun p=>K p.1 p.2:=by
 cases md with
 | pure=>simp only [evM];rw [qfN o (fun v=>K v h),qfN o (fun v=>two v h)];cases evR C o t [] some <;> rfl
 | rd ids=>simp only [evM];rw [qfN o (fun v=>K v h),qfN o (fun v=>two v h)];cases evR C o t (onlyF (memN ids) 0 h) some <;> rfl
 | wr ids=>
  simp only [evM,qi,Option.bind_none]
  congr 1
  ·refine (qfM o 0 _).trans (Eq.trans ?_ (congrArg (fun z=>Option.bind z fun p:V×List O=>K p.1 p.2) (qfM o 0 _).symm))
   cases evS C o t (onlyF (memN ids) 0 h) 0 trip with
   | none=>rfl
   | some p=>
    obtain⟨v,ss,mk⟩:=p
    cases mk <;> simp only [Option.bind_some,qi,Option.bind_none]
  ·split
   ·exact qzh _ _ _ _
   ·split
    ·split <;> simp only [qi,Option.bind_none] <;> rfl
    ·split <;> simp only [qi,Option.bind_none] <;> rfl
 | new id=>
  simp only [evM,qi,Option.bind_none]
  congr 1
  ·refine (qfM o id _).trans (Eq.trans ?_ (congrArg (fun z=>Option.bind z fun p:V×List O=>K p.1 p.2) (qfM o id _).symm))
   cases evS C o t [] id trip with
   | none=>rfl
   | some p=>
    obtain⟨v,ss,mk⟩:=p
    cases ss <;> cases mk <;> simp only [Option.bind_some,Option.bind_none]
    split <;> simp only [qi,Option.bind_some,Option.bind_none]
  split
  ·refine (qjB _ _ _).trans (Eq.trans ?_ (congrArg (fun z=>Option.bind z fun p:V×List O=>K p.1 p.2) (qjB _ _ _).symm))
   cases callN C _ _ some with
   | none=>rfl
   | some x=>
    simp only [Option.bind_some]
    split <;> simp only [qi,Option.bind_some,Option.bind_none]
  ·rfl
 | full=>exact qBw o K
end
end Go.Abs
namespace Go.Abs
section
variable {ρ : Type} {C : Ctx} {h h' : List O} {t t' : Nat -> V}
def Same(t t':Nat->V)(o:Op):Prop:=∀ i∈qAP o,t i=t' i
theorem qAr{x:Operand}(hx:∀ i,x=.tmp i->t i=t' i):ev t x=ev t' x:=by
 cases x with
 | tmp i=>exact hx i rfl
 | _=>rfl
theorem Same.ev{o:Op}(hs:Same t t' o){x:Operand}(hx:x∈o.operands):ev t x=ev t' x:=
 qAr fun i hi=>hs i (by
  subst hi
  exact List.mem_filterMap.2 ⟨.tmp i,by simpa using hx,rfl⟩)
theorem qkR{place:Nat->Option (Nat×Nat)}:(ps:List (Nat×Operand))->(vs:List V)->(∀ p∈ps,ev t p.2=ev t' p.2)->fillV place t ps vs=fillV place t' ps vs
 | [],vs,_=>rfl
 | (i,x) :: r,vs,hp=>by
  have hx:=hp (i,x) (by simp)
  simp only at hx
  simp only [fillV,hx]
  split
  ·rfl
  ·rw [qkR r _ fun p hm=>hp p (by simp [hm])]
theorem qjO{xs:List Operand}(hx:∀ x∈xs,ev t x=ev t' x):xs.map (ev t)=xs.map (ev t'):=List.map_congr_left hx
theorem qvq{c:Call}(hx:∀ x∈c.operands,ev t x=ev t' x)(K:V->Option ρ):callR C t h c K=callR C t' h c K:=by
 have hargs:∀ x∈c.args,ev t x=ev t' x:=fun x hm=>hx x (by simp [Call.operands,hm])
 have hm:=qjO (t:=t) (t':=t') (xs:=c.args.toList) (fun x hm=>hargs x (by simpa using hm))
 unfold callR
 split
 ·split
  ·split
   ·rename_i x ty e _
    rw [hargs x (zAl e)]
   ·rfl
  ·rw [hm]
  ·rw [hm]
  ·rfl
 ·have:callT C.T t (.call c)=callT C.T t' (.call c):=by
   unfold callT
   simp only
   split
   ·rename_i f hf
    rw [hm,hx f (by simp [Call.operands,hf])]
   ·rename_i r nm hf
    rw [hm,hx r (by simp [Call.operands,hf])]
   ·rfl
  rw [this]
theorem qpa{o:Op}(hs:Same t t' o)(K:V->Option ρ):evR C o t h K=evR C o t' h K:=by
 have hev:∀ x∈o.operands,ev t x=ev t' x:=fun x hx=>hs.ev hx
 cases o <;> simp only [Op.operands] at hev <;> simp only [evR]
 case build ty ps=>
  unfold qpk
  have:=fun place vs=>qkR (place:=place) ps.toList vs (fun p hp=>hev p.2 (by simp;exact⟨p.1,by simpa using hp⟩))
  simp only [this]
 case makeFunc fn first caps=>
  rw [qjO (xs:=caps.toList) fun x hx=>hev x (by simp;exact .inr (by simpa using hx)),qjO (xs:=first.toList) fun x hx=>hev x (by simp;exact .inl (by simpa using hx))]
 case slice ty x lo hi mx=>
  have h1:=hev x (by simp)
  have h2:∀ d (K:Int->Option ρ),qgu t lo d K=qgu t' lo d K:=fun d K=>by
   cases lo with
   | none=>rfl
   | some y=>simp only [qgu,hev y (by simp)]
  have h3:∀ d (K:Int->Option ρ),qgu t hi d K=qgu t' hi d K:=fun d K=>by
   cases hi with
   | none=>rfl
   | some y=>simp only [qgu,hev y (by simp)]
  cases mx <;> simp only [qoc,qkI,h1,h2,h3]
 case call c=>exact qvq (by simpa using hev) K
 all_goals (first | rfl | (simp_all;done))
theorem qoY{o:Op}(hs:Same t t' o)(nid:Nat)(K:V->List (Nat×O)->Option O->Option ρ):evS C o t h nid K=evS C o t' h nid K:=by
 have hev:∀ x∈o.operands,ev t x=ev t' x:=fun x hx=>hs.ev hx
 cases o <;> simp only [Op.operands] at hev <;> simp only [evS]
 case buildSlice ty n ps=>
  unfold qet
  have:=fun place vs=>qkR (place:=place) ps.toList vs (fun p hp=>hev p.2 (by simp;exact⟨p.1,by simpa using hp⟩))
  simp only [this]
 case call c=>
  have hargs:∀ x∈c.args,ev t x=ev t' x:=fun x hm=>hev x (by simp [Call.operands,hm])
  congr 1
  ·split
   ·rename_i x y ty e1 e2 _
    rw [hargs x (zAl e1),hargs y (zAl e2)]
   ·rfl
  congr 1
  ·split
   ·rename_i x ty e1 _
    rw [hargs x (zAl e1)]
   ·rfl
  split
  ·rename_i x y ty ty' e1 e2 _ _
   rw [hargs x (zAl e1),hargs y (zAl e2)]
  ·rfl
 case makeMap ty rs=>
  cases rs with
  | none=>rfl
  | some x=>simp only [Option.map_some,hev x (by simp)]
 all_goals (first | rfl | (simp_all;done))
theorem qkX{T:List (Nat×TE)}{o:Op}(hs:Same t t' o):callT T t o=callT T t' o:=by
 unfold callT
 split
 ·rename_i c
  have hc:∀ x∈c.operands,ev t x=ev t' x:=fun x hx=>hs.ev (by simpa [Op.operands] using hx)
  have hm:=qjO (t:=t) (t':=t') (xs:=c.args.toList) (fun x hm=>hc x (by simp [Call.operands];exact .inr (by simpa using hm)))
  split
  ·rename_i f hf
   rw [hm,hc f (by simp [Call.operands,hf])]
  ·rename_i r nm hf
   rw [hm,hc r (by simp [Call.operands,hf])]
  ·rfl
 ·rfl
theorem qun{o:Op}(hs:Same t t' o)(K:V->List O->Option ρ)(K':Option ρ):qqW C o t h K K'=qqW C o t' h K K':=rfl
theorem qnV{o:Op}(hs:Same t t' o)(nid:Nat):takeO C o t h nid=takeO C o t' h nid:=by
 cases o with
 | lookup ty x i ok=>
  have e1:=hs.ev (x:=x) (by simp [Op.operands])
  have e2:=hs.ev (x:=i) (by simp [Op.operands])
  cases ok <;> simp only [takeO,e1,e2]
 | load ty x=>
  have e1:=hs.ev (x:=x) (by simp [Op.operands])
  simp only [takeO,e1]
 | _=>rfl
theorem qpf{o:Op}(hs:Same t t' o):dropO C o t h=dropO C o t' h:=by
 cases o with
 | slice ty x lo hi mx=>
  have e1:=hs.ev (x:=x) (by simp [Op.operands])
  cases lo with
  | none=>rfl
  | some lo=>
   have e2:=hs.ev (x:=lo) (by simp [Op.operands])
   cases hi <;> cases mx <;> first | rfl | simp only [dropO,e1,e2]
 | _=>rfl
theorem qyQ{o:Op}(hs:Same t t' o)(md:Md)(K:V->List O->Option ρ):evM C o t h md K=evM C o t' h md K:=by
 cases md <;> simp only [evM]
 ·exact qpa hs _
 ·exact qpa hs _
 ·rw [qoY hs,qkX hs,qnV hs,qpf hs]
 ·rw [qoY hs,qkX hs]
 ·unfold evW
  rw [qoY hs,qpa hs,qkX hs,qun hs,qnV hs,qpf hs]
def Md.sees:Md->Nat->Prop
 | .pure,_=>False
 | .rd ids,i=>memN ids i=true
 | .wr ids,i=>memN ids i=true
 | .new id,i=>i=id
 | .full,_=>True
def Md.foot:Md->Nat->Prop
 | .pure,_=>False
 | .rd _,_=>False
 | .wr ids,i=>memN ids i=true
 | .new id,i=>i=id
 | .full,_=>True
def Md.isFull:Md->Bool
 | .full=>true
 | _=>false
def Md.isPure:Md->Bool
 | .pure=>true
 | _=>false
structure Agree (md:Md) (h h':List O):Prop where
 len:md.isPure=false->h.length=h'.length
 get:∀ i,md.sees i->getO h i=getO h' i
theorem qlP{h h':List O}(hl:h.length=h'.length)(hg:∀ i,getO h i=getO h' i):h=h':=by
 apply List.ext_getElem hl
 intro i h1 h2
 have:=hg i
 simpa [getO,List.getD,h1,h2] using this
theorem qjn(p:Nat->Bool):(i:Nat)->(h:List O)->(onlyF p i h).length=h.length
 | _,[]=>rfl
 | i,x :: h=>by simp [onlyF,qjn p (i+1) h]
theorem qkL{ids:List Nat}(hl:h.length=h'.length)(hg:∀ i,memN ids i=true->getO h i=getO h' i):onlyF (memN ids) 0 h=onlyF (memN ids) 0 h':=by
 apply qlP
 ·rw [qjn,qjn,hl]
 ·intro i
  rw [qjo,qjo,Nat.zero_add]
  split
  ·exact hg i ‹_›
  ·rfl
theorem qhE:(ss:List (Nat×O))->(h:List O)->(i:Nat)->(∀ p∈ss,p.1≠i)->getO (qZ ss h) i=getO h i
 | [],h,i,_=>rfl
 | (j,x) :: r,h,i,hp=>by
  simp only [qZ]
  rw [qhE r _ i fun p hm=>hp p (by simp [hm])]
  have:=hp (j,x) (by simp)
  simp only at this
  simp [getO,List.getD,zAw this]
theorem qeL{h h':List O}(hl:h.length=h'.length){i j:Nat}{x:O}(hg:getO h i=getO h' i):getO (h.set j x) i=getO (h'.set j x) i:=by
 simp only [getO,List.getD,zAc] at hg ⊢
 rw [hl]
 split
 ·rfl
 ·exact hg
theorem qfL:(ss:List (Nat×O)) -> {h h':List O}->h.length=h'.length->(i:Nat)->getO h i=getO h' i->getO (qZ ss h) i=getO (qZ ss h') i
 | [],h,h',_,i,hg=>hg
 | (j,x) :: r,h,h',hl,i,hg=>qfL r (by simp [hl]) i (qeL hl hg)
theorem qqU{h:List O}{ids:List Nat}{f:V}{args:List V}{v:V}{H:List O}(he:callS C h ids f args two=some (v,H)) :
  ∃ g caps p u a,f=.clo g caps/\qby ids (argsF g args caps)=true/\clsd ids (onlyF (memN ids) 0 h)=true/\C.G (tgtF g) (argsF g args caps) (onlyF (memN ids) 0 h)=some p/\p.h=some u/\p.r=some a /\
   (u a (onlyF (memN ids) 0 h)).length=h.length/\qkM (memN ids) 0 (u a (onlyF (memN ids) 0 h))=true/\v=p.v a/\H=mixF (memN ids) 0 (u a (onlyF (memN ids) 0 h)) h:=by
 unfold callS at he
 split at he
 ·rename_i g caps
  obtain⟨hc,he⟩:=qc he
  rw [zA] at hc
  split at he
  ·cases he
  ·rename_i p hp
   split at he
   ·cases he
   ·rename_i u hu
    cases hr:p.r with
    | none=>rw [hr] at he;cases he
    | some a=>
     rw [hr] at he
     simp only [Option.bind_some,p.spOk] at he
     obtain⟨hl,he⟩:=qc he
     rw [zA] at hl
     cases he
     exact⟨g,caps,p,u,a,rfl,hc.1,hc.2,hp,hu,hr,zB hl.1,hl.2,rfl,rfl⟩
 ·cases he
theorem qwv{o:Op}{md:Md}{v:V}{H:List O}(he:evM C o t h md two=some (v,H)):(∀ i,¬ md.foot i->getO H i=getO h i)/\(md.isFull=false->H.length=h.length):=by
 cases md with
 | pure=>
  simp only [evM] at he
  rw [qfN o] at he
  obtain⟨u,_,he⟩:=zd.1 he
  cases he
  exact⟨fun _ _=>rfl,fun _=>rfl⟩
 | rd ids=>
  simp only [evM] at he
  rw [qfN o] at he
  obtain⟨u,_,he⟩:=zd.1 he
  cases he
  exact⟨fun _ _=>rfl,fun _=>rfl⟩
 | wr ids=>
  simp only [evM] at he
  cases hS:isS o with
  | false=>
   rw [hS,cond_false] at he
   split at he
   ·obtain⟨g,caps,p,u,a,-,-,-,-,-,-,hl,-,-,rfl⟩:=qqU he
    exact⟨fun i hn=>by rw [qlC _ _ _ _ hl,Nat.zero_add,zK (show ¬ memN ids i=true from hn)],fun _=>qoq _ _ _ _ hl⟩
   ·split at he
    ·rename_i p hp
     split at he
     ·rename_i hg
      obtain⟨hi,he⟩:=qc he
      simp only [zA] at hi
      cases he
      refine⟨fun i hn=>?_,fun _=>by rw [zAf,qbg]⟩
      have hne:ids.headD 0≠i:=fun e=>hn (by rw [<- e];exact hi.1)
      have e1:getO ((qZ p.1 h).set (ids.headD 0) p.2) i=getO (qZ p.1 h) i:=by unfold getO;rw [zJ,zJ,zAw hne]
      rw [e1]
      refine qhE p.1 h i fun q hq e=>hn ?_
      have:=zb.1 hi.2.2 q hq
      rw [e] at this
      exact this
     ·cases he
    ·split at he
     ·rename_i p hp
      obtain⟨hi,he⟩:=qc he
      cases he
      refine⟨fun i hn=>?_,fun _=>by rw [zAf]⟩
      rw [zA] at hi
      have hne:p.2.2.1≠i:=fun e=>hn (by rw [<- e];exact hi.1)
      unfold getO;rw [zJ,zJ,zAw hne]
     ·cases he
  | true=>
  rw [hS,cond_true] at he
  rw [qfM o] at he
  obtain⟨⟨u,ss,mk⟩,_,he⟩:=zd.1 he
  cases mk with
  | some x=>cases he
  | none=>
   simp only at he
   obtain⟨hi,he⟩:=qc he
   cases he
   refine⟨fun i hn=>qhE ss h i fun p hp e=>hn ?_,fun _=>qbg _ _⟩
   have:=zb.1 hi p hp
   rw [e] at this
   exact this
 | new id=>
  simp only [evM] at he
  cases hS:isS o with
  | true=>
   rw [hS,cond_true,qfM o] at he
   obtain⟨⟨u,ss,mk⟩,_,he⟩:=zd.1 he
   cases ss with
   | cons p ss=>cases he
   | nil=>
    cases mk with
    | none=>cases he
    | some x=>
     simp only at he
     cases hg:getO h id with
     | none=>
      rw [hg] at he
      simp only at he
      obtain⟨_,he⟩:=qc he
      cases he
      refine⟨fun i hn=>?_,fun _=>by simp⟩
      have hn:id≠i:=fun e=>hn e.symm
      simp [getO,List.getD,zAw hn]
     | cells vs=>rw [hg] at he;cases he
     | nst _ _ _=>rw [hg] at he;cases he
     | kds _ _ _ _ _=>rw [hg] at he;cases he
     | gone=>rw [hg] at he;cases he
     | oth fz q d=>rw [hg] at he;cases he
     | row fz ver e s xs=>rw [hg] at he;cases he
  | false=>
   rw [hS,cond_false] at he
   split at he
   ·rw [qjB] at he
    obtain⟨x,_,he⟩:=zd.1 he
    cases hg:getO h id with
    | none=>
     rw [hg] at he
     simp only at he
     obtain⟨_,he⟩:=qc he
     cases he
     refine⟨fun i hn=>?_,fun _=>by simp⟩
     have hn:id≠i:=fun e=>hn e.symm
     simp [getO,List.getD,zAw hn]
    | cells vs=>rw [hg] at he;cases he
    | nst _ _ _=>rw [hg] at he;cases he
    | kds _ _ _ _ _=>rw [hg] at he;cases he
    | gone=>rw [hg] at he;cases he
    | oth fz q d=>rw [hg] at he;cases he
    | row fz ver e s xs=>rw [hg] at he;cases he
   ·cases he
 | full=>exact⟨fun i hn=>absurd trivial hn,fun hf=>by cases hf⟩
theorem qyP{o:Op}{md:Md}{v:V}{H:List O}(ha:Agree md h h')(he:evM C o t h md two=some (v,H)) :
  ∃ H',evM C o t h' md two=some (v,H')/\∀ i,md.foot i->getO H i=getO H' i:=by
 cases md with
 | pure=>
  simp only [evM] at he ⊢
  rw [qfN o] at he
  obtain⟨u,h1,he⟩:=zd.1 he
  cases he
  refine⟨h',?_,fun i hf=>hf.elim⟩
  rw [qfN o,h1];rfl
 | rd ids=>
  simp only [evM] at he ⊢
  rw [qfN o] at he
  obtain⟨u,h1,he⟩:=zd.1 he
  cases he
  refine⟨h',?_,fun i hf=>hf.elim⟩
  rw [qfN o,<- qkL (ha.len rfl) ha.get,h1];rfl
 | wr ids=>
  simp only [evM] at he ⊢
  have hof:=qkL (ids:=ids) (ha.len rfl) ha.get
  cases hS:isS o with
  | false=>
   rw [hS,cond_false] at he
   rw [cond_false]
   split at he
   ·rename_i f args hc
    obtain⟨g,caps,p,u,a,e1,e2,e3,e4,e5,e6,hl,e7,rfl,rfl⟩:=qqU he
    have hl':(u a (onlyF (memN ids) 0 h')).length=h'.length:=by rw [<- hof,hl];exact ha.len rfl
    refine⟨mixF (memN ids) 0 (u a (onlyF (memN ids) 0 h')) h',?_,fun i hf=>?_⟩
    ·simp only [callS,e1,e2,<- hof,e3,Bool.and_self,cond_true,e4,e5,e6,Option.bind_some,p.spOk,e7]
     rw [show Nat.beq (u a (onlyF (memN ids) 0 h)).length h'.length=true by rw [hof,hl'];exact Nat.beq_refl _];rfl
    ·rw [qlC _ _ _ _ hl,qlC _ _ _ _ hl',Nat.zero_add,zH (show memN ids i=true from hf),zH (show memN ids i=true from hf),hof]
   ·rw [<- hof]
    split at he
    ·rename_i p hp
     split at he
     ·rename_i hg
      obtain⟨hi,he⟩:=qc he
      have hi':=hi
      simp only [zA] at hi'
      cases he
      have hg':getO h' (ids.headD 0)=.none:=by rw [<- ha.get _ hi'.1,hg]
      refine⟨(qZ p.1 h').set (ids.headD 0) p.2,?_,fun i hf=>qeL (by rw [qbg,qbg];exact ha.len rfl) (qfL p.1 (ha.len rfl) i (ha.get i hf))⟩
      simp only [hg',<- ha.len rfl,hi,cond_true]
     ·cases he
    ·split at he
     ·rename_i p hp
      obtain⟨hi,he⟩:=qc he
      cases he
      exact⟨h'.set p.2.2.1 p.2.2.2,by simp only [hi,cond_true],fun i hf=>qeL (ha.len rfl) (ha.get i hf)⟩
     ·cases he
  | true=>
  rw [hS,cond_true] at he
  rw [qfM o] at he
  obtain⟨⟨u,ss,mk⟩,h1,he⟩:=zd.1 he
  cases mk with
  | some x=>cases he
  | none=>
   simp only at he
   obtain⟨hi,he⟩:=qc he
   cases he
   refine⟨qZ ss h',?_,fun i hf=>qfL ss (ha.len rfl) i (ha.get i hf)⟩
   rw [cond_true,qfM o,<- qkL (ha.len rfl) ha.get,h1]
   simp only [Option.bind_some,hi,cond_true]
 | new id=>
  simp only [evM] at he ⊢
  cases hS:isS o with
  | true=>
   rw [hS,cond_true,qfM o] at he
   obtain⟨⟨u,ss,mk⟩,h1,he⟩:=zd.1 he
   cases ss with
   | cons p ss=>cases he
   | nil=>
    cases mk with
    | none=>cases he
    | some x=>
     simp only at he
     cases hg:getO h id with
     | none=>
      rw [hg] at he
      simp only at he
      obtain⟨hlt,he⟩:=qc he
      cases he
      have hg':getO h' id=.none:=by rw [<- ha.get id rfl,hg]
      refine⟨h'.set id x,?_,fun i hf=>?_⟩
      ·rw [cond_true,qfM o,h1]
       simp only [Option.bind_some,hg',<- ha.len rfl,hlt,cond_true]
      ·exact qeL (ha.len rfl) (ha.get i hf)
     | cells vs=>rw [hg] at he;cases he
     | nst _ _ _=>rw [hg] at he;cases he
     | kds _ _ _ _ _=>rw [hg] at he;cases he
     | gone=>rw [hg] at he;cases he
     | oth fz q d=>rw [hg] at he;cases he
     | row fz ver e s xs=>rw [hg] at he;cases he
  | false=>
   rw [hS,cond_false] at he
   rw [cond_false]
   split at he
   ·rename_i f args hc
    rw [qjB] at he
    obtain⟨x,h1,he⟩:=zd.1 he
    cases hg:getO h id with
    | none=>
     rw [hg] at he
     simp only at he
     obtain⟨hlt,he⟩:=qc he
     cases he
     have hg':getO h' id=.none:=by rw [<- ha.get id rfl,hg]
     refine⟨h'.set id x,?_,fun i hf=>?_⟩
     ·rw [qjB,h1]
      simp only [Option.bind_some,hg',<- ha.len rfl,hlt,cond_true]
     ·exact qeL (ha.len rfl) (ha.get i hf)
    | cells vs=>rw [hg] at he;cases he
    | nst _ _ _=>rw [hg] at he;cases he
    | kds _ _ _ _ _=>rw [hg] at he;cases he
    | gone=>rw [hg] at he;cases he
    | oth fz q d=>rw [hg] at he;cases he
    | row fz ver e s xs=>rw [hg] at he;cases he
   ·cases he
 | full=>
  have:h=h':=qlP (ha.len rfl) fun i=>ha.get i trivial
  subst this
  exact⟨H,he,fun _ _=>rfl⟩
theorem qlE{a b:List Nat}(hd:disj a b=true){i:Nat}(ha:memN a i=true)(hb:memN b i=true):False:=by
 unfold memN at ha
 obtain⟨x,hx,he⟩:=zAX.1 ha
 have he:=zB he
 subst he
 have:=zb.1 hd i hx
 simp [hb] at this
theorem qyn{a b:Md}(hm:mdOk a b=true):(∀ i,a.foot i->¬ b.sees i)/\(∀ i,b.foot i->¬ a.sees i)/\(a.isFull=true->b.isPure=true)/\(b.isFull=true->a.isPure=true):=by
 have hne:∀ {ids:List Nat} {j:Nat},(!memN ids j)=true->memN ids j=true->False:=fun {ids j} h1 h2=>by simp [h2] at h1
 cases a <;> cases b <;> simp only [mdOk,zA,zt] at hm <;>
  refine⟨fun i hf hs=>?_,fun i hf hs=>?_,fun hh=>?_,fun hh=>?_⟩ <;>
  simp only [Md.foot,Md.sees,Md.isFull,Md.isPure,zt] at * <;>
  first
   | (subst hf;subst hs;simp at hm;done)
   | (subst hf;exact hne hm hs)
   | (subst hs;exact hne hm hf)
   | exact qlE hm hf hs
   | exact qlE hm hs hf
   | exact qlE hm.1 hf hs
   | exact qlE hm.1 hs hf
end
end Go.Abs
namespace Go.Abs
section
variable {ρ : Type} {C : Ctx} {all : List Oper}
abbrev S:=(Nat->V)×List O
def upd(dst:Option Tmp)(v:V)(t:Nat->V):Nat->V:=
 match dst with
 | none=>t
 | some d=>fun i=>bif Nat.beq d i then v else t i
def okDst(n:Nat):Option Tmp->Bool
 | none=>true
 | some d=>Nat.blt d n
def actA(C:Ctx)(all:List Oper)(o:Oper)(md:Md)(t:Nat->V)(h:List O):Option (V×List O):=
 match o.guard with
 | none=>evM C o.op t h md two
 | some (j,want)=>
  match dstOf all j with
  | none=>none
  | some d=>
   match t d with
   | .bool b=>if b=want then evM C o.op t h md two else some (.undef,h)
   | .undef=>some (.undef,h)
   | _=>none
def stepA(C:Ctx)(all:List Oper)(x:Oper×Md)(s:S):Option S:=
 bif okDst C.n x.1.dst then (actA C all x.1 x.2 s.1 s.2).map fun p=>(upd x.1.dst p.1 s.1,p.2) else none
def runA(C:Ctx)(all:List Oper):List (Oper×Md)->S->Option S
 | [],s=>some s
 | x :: r,s=>(stepA C all x s).bind (runA C all r)
def zipM:List Oper->List Md->List (Oper×Md)
 | [],_=>[]
 | o :: r,mds=>(o,mds.headD .full) :: zipM r mds.tail
theorem qtx(d:Nat)(v:V)(t:Slots):look ((d,v) :: t)=upd (some d) v (look t):=rfl
theorem upd_same{t:Nat->V}{d:Nat}{v:V}(h:t d=v):upd (some d) v t=t:=by
 funext i
 simp only [upd]
 cases hb:Nat.beq d i with
 | false=>rfl
 | true=>have:=zB hb;subst this;exact h.symm
theorem qry{n:Nat}{dst:Option Tmp}{v:V}{t:Slots}{K:Slots->Option ρ}{res:ρ}(h:putD n dst v t K=some res):okDst n dst=true/\∃ t',look t'=upd dst v (look t)/\K t'=some res:=by
 cases dst with
 | none=>exact⟨rfl,t,rfl,h⟩
 | some d=>
  simp only [putD] at h
  obtain⟨h1,h2⟩:=qc h
  exact⟨h1,_,qtx d v t,h2⟩
theorem qjL:(r:List Oper)->(mds:List Md)->(t:Slots)->(h:List O)->(K:Slots->List O->Option ρ) -> {res:ρ}->opsK C all r mds t h K=some res ->
  ∃ t' h',runA C all (zipM r mds) (look t,h)=some (look t',h')/\K t' h'=some res
 | [],mds,t,h,K,res,hk=>⟨t,h,rfl,hk⟩
 | o :: r,mds,t,h,K,res,hk=>by
  have fin:∀ {v:V} {t1:Slots} {H:List O},look t1=look t->actA C all o (mds.headD .full) (look t) h=some (v,H) ->
    putD C.n o.dst v t1 (fun t=>opsK C all r mds.tail t H K)=some res->∃ t' h',runA C all (zipM (o :: r) mds) (look t,h)=some (look t',h')/\K t' h'=some res:=by
   intro v t1 H e1 e2 e3
   obtain⟨h1,t2,h2,h3⟩:=qry e3
   obtain⟨t3,h4,h5,h6⟩:=qjL r mds.tail t2 H K h3
   refine⟨t3,h4,?_,h6⟩
   simp only [zipM,runA,stepA,h1,cond_true,e2,Option.map_some,Option.bind_some]
   rw [<- e1,<- h2];exact h5
  have evd:∀ {t1:Slots},look t1=look t->evM C o.op (look t1) h (mds.headD .full) (fun v h=>putD C.n o.dst v t1 fun t=>opsK C all r mds.tail t h K)=some res ->
    ∃ v H,evM C o.op (look t) h (mds.headD .full) two=some (v,H)/\putD C.n o.dst v t1 (fun t=>opsK C all r mds.tail t H K)=some res:=by
   intro t1 e1 e2
   rw [qBy] at e2
   obtain⟨⟨v,H⟩,h1,h2⟩:=zd.1 e2
   rw [e1] at h1
   exact⟨v,H,h1,h2⟩
  simp only [opsK] at hk
  cases hg:o.guard with
  | none=>
   rw [hg] at hk
   simp only at hk
   obtain⟨v,H,h1,h2⟩:=evd rfl hk
   exact fin rfl (by simp only [actA,hg];exact h1) h2
  | some gw=>
   obtain⟨j,want⟩:=gw
   rw [hg] at hk
   simp only at hk
   cases hd:dstOf all j with
   | none=>rw [hd] at hk;cases hk
   | some d=>
    rw [hd] at hk
    simp only at hk
    cases ht:look t d with
    | bool b=>
     rw [ht] at hk
     simp only at hk
     have hup:look ((d,.bool b) :: t)=look t:=by rw [qtx,upd_same ht]
     cases b with
     | true=>
      simp only [cond_true] at hk
      cases want with
      | true=>
       simp only [cond_true] at hk
       obtain⟨v,H,h1,h2⟩:=evd hup hk
       exact fin hup (by simp only [actA,hg,hd,ht,if_true];exact h1) h2
      | false=>
       simp only [cond_false] at hk
       exact fin hup (by simp [actA,hg,hd,ht]) hk
     | false=>
      simp only [cond_false] at hk
      cases want with
      | true=>
       simp only [cond_true] at hk
       exact fin hup (by simp [actA,hg,hd,ht]) hk
      | false=>
       simp only [cond_false] at hk
       obtain⟨v,H,h1,h2⟩:=evd hup hk
       exact fin hup (by simp only [actA,hg,hd,ht,if_true];exact h1) h2
    | undef=>
     rw [ht] at hk
     exact fin rfl (by simp [actA,hg,hd,ht]) hk
    | _=>rw [ht] at hk;cases hk
theorem qjY{o:Oper}{md:Md}{t t':Nat->V}{h:List O}(hs:∀ i∈reads all o,t i=t' i):actA C all o md t h=actA C all o md t' h:=by
 have h1:Same t t' o.op:=fun i hi=>hs i (zU _ hi)
 have h2:=qyQ (C:=C) (h:=h) h1 md two
 unfold actA
 cases hg:o.guard with
 | none=>exact h2
 | some gw=>
  obtain⟨j,want⟩:=gw
  simp only
  cases hd:dstOf all j with
  | none=>rfl
  | some d=>
   have:=hs d (zZ _ (by simp [qwk,hg,hd]))
   simp only [this,h2]
theorem qoQ{md:Md}{i:Nat}(h:md.foot i):md.sees i:=by
 cases md <;> simp_all [Md.foot,Md.sees]
theorem qmb{o:Oper}{md:Md}{t:Nat->V}{h:List O}{v:V}{H:List O}(he:actA C all o md t h=some (v,H)):(∀ i,¬ md.foot i->getO H i=getO h i)/\(md.isFull=false->H.length=h.length):=by
 unfold actA at he
 split at he
 ·exact qwv he
 ·split at he
  ·cases he
  ·split at he
   ·split at he
    ·exact qwv he
    ·cases he;exact⟨fun _ _=>rfl,fun _=>rfl⟩
   ·cases he;exact⟨fun _ _=>rfl,fun _=>rfl⟩
   ·cases he
theorem qwG{o:Oper}{md:Md}{t:Nat->V}{h h':List O}{v:V}{H:List O}(ha:Agree md h h')(he:actA C all o md t h=some (v,H)) :
  ∃ H',actA C all o md t h'=some (v,H')/\∀ i,md.foot i->getO H i=getO H' i:=by
 unfold actA at he ⊢
 split at he
 ·exact qyP ha he
 ·split at he
  ·cases he
  ·split at he
   ·split at he
    ·rename_i hb;subst hb
     simp only [if_true]
     exact qyP ha he
    ·rename_i hb
     cases he;exact⟨h',by simp [hb],fun i hf=>ha.get i (qoQ hf)⟩
   ·cases he;exact⟨h',rfl,fun i hf=>ha.get i (qoQ hf)⟩
   ·cases he
theorem qnO{l:List Nat}{i:Nat}:memN l i=true↔i∈l:=by
 unfold memN
 rw [zAX]
 exact⟨fun ⟨x,h1,h2⟩=>by rw [zB h2];exact h1,fun h=>⟨i,h,Nat.beq_refl i⟩⟩
theorem qld{dst:Option Tmp}{l:List Nat}(h:notIn dst l=true){v:V}{t:Nat->V}:∀ i∈l,t i=upd dst v t i:=by
 intro i hi
 cases dst with
 | none=>rfl
 | some d=>
  simp only [upd]
  cases hb:Nat.beq d i with
  | false=>rfl
  | true=>
   have:=zB hb;subst this
   simp only [notIn,qnO.2 hi] at h;cases h
theorem qvC{a b:Option Tmp}(h:qxD a b=true){u v:V}{t:Nat->V}:upd a u (upd b v t)=upd b v (upd a u t):=by
 cases a with
 | none=>rfl
 | some x=>
  cases b with
  | none=>rfl
  | some y=>
   funext i
   simp only [upd]
   cases hx:Nat.beq x i with
   | false=>rfl
   | true=>
    cases hy:Nat.beq y i with
    | false=>rfl
    | true=>
     have e1:=zB hx;have e2:=zB hy
     subst e1;subst e2
     simp [qxD,Nat.beq_refl] at h
theorem qhN{x:Oper×Md}{s s':S}(h:stepA C all x s=some s'):okDst C.n x.1.dst=true/\∃ v H,actA C all x.1 x.2 s.1 s.2=some (v,H)/\s'=(upd x.1.dst v s.1,H):=by
 unfold stepA at h
 obtain⟨h1,h2⟩:=qc h
 obtain⟨⟨v,H⟩,h3,h4⟩:=zAa.1 h2
 exact⟨h1,v,H,h3,h4.symm⟩
theorem qqJ{k v:Sh}{x:k.den}{es:Ents k v}{e:Int×(k.den×v.den)}:entOf k v x (es ++ [e])=match entOf k v x es with | some r=>some r | none=>bif eqD k x e.2.1 then some e else none:=by
 induction es with
 | nil=>rfl
 | cons f r ih=>
  simp only [List.cons_append,entOf]
  cases eqD k x f.2.1 with
  | true=>rfl
  | false=>simp only [cond_false];exact ih
theorem qsd{x y:Oper×Md}(hsw:qvj x.1 x.2 y.1 y.2=true){t:Nat->V}{h H1 H2:List O}{va vb:V}(e1:actA C all x.1 x.2 t h=some (va,H1))(e2:actA C all y.1 y.2 t H1=some (vb,H2)) :
  actA C all y.1 y.2 t h=some (vb,H2)/\actA C all x.1 x.2 t H2=some (va,H2):=by
 obtain⟨a,ma⟩:=x
 obtain⟨b,mb⟩:=y
 unfold qvj at hsw
 simp only at hsw e1 e2 ⊢
 split at hsw
 case h_2=>cases hsw
 rename_i ty m k hop
 split at hsw
 ·cases hsw
 rename_i hga
 split at hsw
 case h_2=>cases hsw
 rename_i ty' m' k' hop'
 split at hsw
 ·cases hsw
 rename_i hgb
 split at hsw
 case h_2=>cases hsw
 rename_i ids
 split at hsw
 case h_2=>cases hsw
 rename_i ids'
 unfold actA at e1 e2 ⊢
 rw [hga] at e1 ⊢
 rw [hgb] at e2 ⊢
 simp only [evM,hop,hop',evR,isS,cond_true,evS] at e1 e2 ⊢
 have hH1:h=H1:=by
  split at e1
  ·rw [qnb] at e1
   obtain⟨v,-,e⟩:=zd.1 e1
   cases e;rfl
  ·rw [qoB] at e1
   obtain⟨v,-,e⟩:=zd.1 e1
   cases e;rfl
 subst hH1
 refine⟨e2,?_⟩
 unfold qhX at e2;cases e2
theorem qwN{x y:Oper×Md}(hsw:qsK all x.1 x.2 y.1 y.2=true){s s1 s2:S}(h1:stepA C all x s=some s1)(h2:stepA C all y s1=some s2) :
  ∃ s1',stepA C all y s=some s1'/\stepA C all x s1'=some s2:=by
 simp only [qsK,zA] at hsw
 obtain⟨⟨⟨hu,hxy⟩,hyx⟩,hm⟩:=hsw
 rw [zx] at hm
 rcases hm with hm | hm
 case inr=>
  obtain⟨o1,va,H1,e1,rfl⟩:=qhN h1
  obtain⟨o2,vb,H2,e2,rfl⟩:=qhN h2
  simp only at e2
  rw [<- qjY (qld hxy)] at e2
  obtain⟨e3,e4⟩:=qsd hm e1 e2
  refine⟨(upd y.1.dst vb s.1,H2),?_,?_⟩
  ·simp only [stepA,o2,cond_true,e3,Option.map_some]
  ·rw [qjY (qld hyx (v:=vb))] at e4
   simp only [stepA,o1,cond_true,e4,Option.map_some,qvC hu]
 obtain⟨m1,m2,m3,m4⟩:=qyn hm
 obtain⟨o1,va,H1,e1,rfl⟩:=qhN h1
 obtain⟨o2,vb,H2,e2,rfl⟩:=qhN h2
 simp only at e2
 rw [<- qjY (qld hxy)] at e2
 obtain⟨f1,l1⟩:=qmb e1
 obtain⟨f2,l2⟩:=qmb e2
 have full_of:∀ {md:Md},md.isPure=false->md.isFull=true\/md.isFull=false:=fun {md} _=>by cases md.isFull <;> simp
 have pf:∀ {md:Md},md.isPure=true->∀ i,¬ md.foot i:=fun {md} hp i=>by cases md <;> simp_all [Md.isPure,Md.foot]
 have pnf:∀ {md:Md},md.isPure=true->md.isFull=false:=fun {md} hp=>by cases md <;> simp_all [Md.isPure,Md.isFull]
 have nfull:∀ {md md':Md},(md.isFull=true->md'.isPure=true)->md'.isPure=false->md.isFull=false:=fun {md md'} hh hp=>by
  cases hf:md.isFull with
  | false=>rfl
  | true=>rw [hh hf] at hp;cases hp
 have ag1:Agree y.2 H1 s.2:=⟨fun hp=>l1 (nfull m3 hp),fun i hs=>f1 i fun hf=>m1 i hf hs⟩
 obtain⟨H1',e3,g3⟩:=qwG ag1 e2
 obtain⟨f3,l3⟩:=qmb e3
 have ag2:Agree x.2 s.2 H1':=⟨fun hp=>(l3 (nfull m4 hp)).symm,fun i hs=>(f3 i fun hf=>m2 i hf hs).symm⟩
 obtain⟨H2',e4,g4⟩:=qwG ag2 e1
 obtain⟨f4,l4⟩:=qmb e4
 have hH:H2=H2':=by
  apply qlP
  ·cases hx:x.2.isFull with
   | true=>
    have hp:=m3 hx
    have h12:H2.length=H1.length:=l2 (pnf hp)
    have hs1:s.2=H1':=(qlP (l3 (pnf hp)) fun i=>f3 i (pf hp i)).symm
    rw [<- hs1,e1] at e4
    cases e4
    exact h12
   | false=>
    cases hy:y.2.isFull with
    | true=>
     have hp:=m4 hy
     have hs1:H1=s.2:=qlP (l1 hx) fun i=>f1 i (pf hp i)
     rw [hs1,e3] at e2
     cases e2
     exact (l4 hx).symm
    | false=>rw [l2 hy,l1 hx,l4 hx,l3 hy]
  ·intro i
   by_cases hx:x.2.foot i
   ·rw [f2 i fun hf=>m1 i hx (qoQ hf),g4 i hx]
   ·by_cases hy:y.2.foot i
    ·rw [g3 i hy,f4 i hx]
    ·rw [f2 i hy,f1 i hx,f4 i hx,f3 i hy]
 subst hH
 refine⟨(upd y.1.dst vb s.1,H1'),?_,?_⟩
 ·simp only [stepA,o2,cond_true,e3,Option.map_some]
 ·rw [qjY (qld hyx (v:=vb))] at e4
  simp only [stepA,o1,cond_true,e4,Option.map_some,qvC hu]
theorem qoP:(pre:List (Oper×Md)) -> {x:Oper×Md} -> {post:List (Oper×Md)}->(∀ p∈pre,qsK all p.1 p.2 x.1 x.2=true) -> {s s':S} ->
  runA C all (pre++x :: post) s=some s'->∃ s1,stepA C all x s=some s1/\runA C all (pre++post) s1=some s'
 | [],x,post,hp,s,s',h=>by
  obtain⟨s1,h1,h2⟩:=zd.1 h
  exact⟨s1,h1,h2⟩
 | p :: pre,x,post,hp,s,s',h=>by
  obtain⟨s1,h1,h2⟩:=zd.1 h
  obtain⟨s2,h3,h4⟩:=qoP pre (fun q hq=>hp q (by simp [hq])) h2
  obtain⟨s1',h5,h6⟩:=qwN (hp p (by simp)) h1 h3
  refine⟨s1',h5,?_⟩
  simp only [List.cons_append,runA,h6,Option.bind_some]
  exact h4
end
end Go.Abs
