import Derived.Test.YtcjecibocjbdmaaAbsOpsS
namespace Go.Abs
section
variable {ρ : Type} {C : Ctx} {h : List O} {t t' : Nat -> V}
theorem qg{α β:Type}(b:Bool)(x y:Option α)(K:α->Option β):(bif b then x else y).bind K=bif b then x.bind K else y.bind K:=by cases b <;> rfl
theorem qlP(op:BinOp)(k:IntKind)(x y:Int)(K:V->Option ρ):qhn op k x y K=(qhn op k x y some).bind K:=by
 cases op <;> simp only [qhn,qg,Option.bind_some,Option.bind_none]
theorem qkq(op:BinOp)(x y:Bool)(K:V->Option ρ):qie op x y K=(qie op x y some).bind K:=by
 cases op <;> rfl
theorem qlO(op:BinOp)(ty:TypeId)(x y:V)(K:V->Option ρ):qcl C op ty x y K=(qcl C op ty x y some).bind K:=by
 cases x <;> cases y <;> simp only [qcl,qg,Option.bind_none]
 ·rw [qlP];split <;> simp [Option.bind_none]
 ·rw [qkq]
 ·unfold nilOp
  split
  ·rfl
  ·cases op <;> rfl
 ·unfold qlc
  split
  ·rfl
  ·rw [qg]
   congr 1
   split
   ·rfl
   ·split
    ·rfl
    ·split
     ·rfl
     ·split <;> rfl
theorem qlV(op:UnOp)(x:V)(K:V->Option ρ):unOpK op x K=(unOpK op x some).bind K:=by
 cases x <;> cases op <;> rfl
theorem qmC(ty:TypeId)(a:V)(K:V->Option ρ):loadK C h ty a K=(loadK C h ty a some).bind K:=by
 unfold loadK
 split
 ·rfl
 ·split
  ·rfl
  ·rw [qg];rfl
theorem qeK(size:Nat)(agg:Bool)(vs:List V)(i:Int)(K:V->Option ρ):(n j:Nat)->qbF size agg vs i K n j=(qbF size agg vs i some n j).bind K
 | 0,j=>rfl
 | n+1,j=>by simp only [qbF,qg,Option.bind_some];rw [qeK _ _ _ _ _ n]
theorem qek{α β:Type}(x:Option Operand)(d:Int)(K:Int->Option α)(L:α->Option β):(qbm t x d K).bind L=qbm t x d (fun y=>(K y).bind L):=by
 unfold qbm
 split
 ·rfl
 ·split <;> rfl
theorem qlM(ty:TypeId)(ps:List (Nat×Operand))(K:V->Option ρ):qgk C t ty ps K=(qgk C t ty ps some).bind K:=by
 unfold qgk
 repeat' (first | rfl | split)
theorem qgB(ty:TypeId)(x:V)(f:Nat)(K:V->Option ρ):qbf C h ty x f K=(qbf C h ty x f some).bind K:=by
 unfold qbf
 split
 ·rfl
 ·split
  ·split
   ·rfl
   ·rw [qg]
    cases x <;> simp only [qg,Option.bind_some,Option.bind_none]
    split <;> rfl
  ·rfl
theorem qlD(ty:TypeId)(x:V)(f:Nat)(K:V->Option ρ):qgZ C ty x f K=(qgZ C ty x f some).bind K:=by
 unfold qgZ
 split
 ·rfl
 ·split
  ·split
   ·rfl
   ·split
    ·rfl
    ·cases x <;> simp only [qg,Option.bind_some,Option.bind_none]
  ·rfl
theorem qfM(ty:TypeId)(x i:V)(K:V->Option ρ):qaH C h ty x i K=(qaH C h ty x i some).bind K:=by
 unfold qaH
 split
 ·rfl
 ·cases i <;> simp only [Option.bind_none]
  cases x <;> simp only [qg,Option.bind_some,Option.bind_none]
  all_goals split <;> simp only [qg,Option.bind_some,Option.bind_none]
theorem qeJ(o a size:Nat)(i:Int)(K:V->Option ρ):(n j:Nat)->qbE o a size i K n j=(qbE o a size i some n j).bind K
 | 0,j=>rfl
 | n+1,j=>by simp only [qbE,qg,Option.bind_some];rw [qeJ _ _ _ _ _ n]
theorem qgA(ty:TypeId)(x i:V)(K:V->Option ρ):qbe C h ty x i K=(qbe C h ty x i some).bind K:=by
 unfold qbe
 split
 ·cases i <;> simp only [Option.bind_none]
  cases x <;> simp only [qg,Option.bind_none]
  rw [qeJ]
 ·exact qfM ty x i K
theorem qlB(ty:TypeId)(x i:V)(K:V->Option ρ):qgU C ty x i K=(qgU C ty x i some).bind K:=by
 unfold qgU
 split
 ·rfl
 ·split
  ·split
   ·rfl
   ·cases i <;> simp only [Option.bind_none]
    cases x <;> simp only [qg,Option.bind_none]
    rw [qeK]
  ·rfl
theorem qhO(ty:TypeId)(s:ByteArray)(i:V)(K:V->Option ρ):qcP C ty s i K=(qcP C ty s i some).bind K:=rfl
theorem qjI(ty:TypeId)(x:V)(lo hi:Option Operand)(K:V->Option ρ):qeg C ty x lo hi K=(qeg C ty x lo hi some).bind K:=by
 unfold qeg
 split
 ·rfl
 ·split
  ·rfl
  ·split
   ·rfl
   ·split
    ·rw [qg];rfl
    ·rfl
theorem qjH(ty:TypeId)(s:Sh)(y:s.den)(lo hi:Option Operand)(K:V->Option ρ):qdu C t ty s y lo hi K=(qdu C t ty s y lo hi some).bind K:=by
 unfold qdu
 split
 ·rfl
 split
 ·rfl
 split
 ·rfl
 rw [qg]
 congr 1
 split
 ·rfl
 ·simp only [qek,qg,Option.bind_none,Option.bind_some]
theorem qlp(ty:TypeId)(x:V)(lo hi:Option Operand)(K:V->Option ρ):qfg C h t ty x lo hi K=(qfg C h t ty x lo hi some).bind K:=by
 unfold qfg
 split
 ·split
  ·exact qjH _ _ _ _ _ _
  ·exact qjI _ _ _ _ _
 ·cases x <;> (try simp only [qg,Option.bind_none,qek,Option.bind_some])
  cases hi with
  | some _=>rfl
  | none=>
   simp only
   split
   ·simp only [qg,Option.bind_none,qek,Option.bind_some]
   ·rfl
theorem qnH(ty:TypeId)(x:V)(K:V->Option ρ):lenK C h ty x K=(lenK C h ty x some).bind K:=by
 unfold lenK
 repeat' (first | rfl | split)
theorem qfw(m:Bool)(vs:List V)(K:V->Option ρ):qdB m vs K=(qdB m vs some).bind K:=by
 unfold qdB
 repeat' (first | rfl | split)
theorem qlK(f:V)(args:List V)(K:V->Option ρ):qhl C h f args K=(qhl C h f args some).bind K:=by
 unfold qhl
 split
 ·split
  ·rfl
  ·split
   ·rename_i p _ _ _
    simp only [p.spOk]
    cases p.r <;> rfl
   ·rfl
 ·rfl
theorem qjp(s d:TypeId)(x:V)(K:V->Option ρ):qdf C s d x K=(qdf C s d x some).bind K:=by
 unfold qdf
 repeat' (first | rfl | split)
theorem qmn(c a b:V)(K:V->Option ρ):pickK c a b K=(pickK c a b some).bind K:=by
 cases c <;> simp only [pickK,qg,Option.bind_some,Option.bind_none]
theorem qhH(x:V)(K:V->Option ρ):qam h x K=(qam h x some).bind K:=by
 cases x <;> simp only [qam,qg,Option.bind_some,Option.bind_none]
theorem qjd(x:V)(i:Nat)(K:V->Option ρ):qcz x i K=(qcz x i some).bind K:=by
 unfold qcz
 repeat' (first | rfl | split)
theorem qfD(ty:TypeId)(x i:V)(ok:Bool)(K:V->Option ρ):qep C h ty x i ok K=(qep C h ty x i ok some).bind K:=by
 unfold qep
 split
 ·rfl
 ·split
  ·rfl
  ·rw [qg];rfl
theorem qeG(ty:TypeId)(x i:V)(ok:Bool)(K:V->Option ρ):qdW C h ty x i ok K=(qdW C h ty x i ok some).bind K:=rfl
theorem qmE(x:V)(K:V->Option ρ):lenNK h x K=(lenNK h x some).bind K:=rfl
theorem qlE(x:V)(K:V->Option ρ):qjj h x K=(qjj h x some).bind K:=rfl
theorem qkc(ty:TypeId)(x:V)(K:V->Option ρ):qer C h ty x K=(qer C h ty x some).bind K:=by
 unfold qer
 split
 ·split
  ·rfl
  ·exact qmE _ _
 ·rfl
theorem qni(c:Call)(K:V->Option ρ):callR C t h c K=(callR C t h c some).bind K:=by
 unfold callR
 split
 ·split
  ·split
   ·split
    ·exact qkc _ _ _
    ·exact qnH _ _ _
   ·rfl
  ·exact qfw _ _ _
  ·exact qfw _ _ _
  ·rfl
 ·split
  ·rfl
  ·exact qlK _ _ _
theorem qba(op:BinOp)(b:Bool)(K:V->Option ρ):qbZ op b K=(qbZ op b some).bind K:=by
 unfold qbZ
 split <;> rfl
theorem qjP(op:BinOp)(ty:TypeId)(x:V)(K:V->Option ρ):qej C op ty x K=(qej C op ty x some).bind K:=by
 unfold qej
 split
 ·rfl
 ·split
  ·split
   ·exact qba _ _ _
   ·rw [qg,qba];rfl
   ·exact qba _ _ _
   ·rfl
  ·rfl
theorem qjX(op:BinOp)(ty:TypeId)(x:V)(K:V->Option ρ):qen C h op ty x K=(qen C h op ty x some).bind K:=by
 unfold qen
 split
 ·rfl
 ·split
  ·split
   ·exact qba _ _ _
   ·split
    ·rw [qg,qba];rfl
    ·rfl
   ·split
    ·rw [qg,qba];rfl
    ·rfl
   ·rfl
  ·rfl
theorem qkf(op:BinOp)(ty:TypeId)(x:V)(K:V->Option ρ):qfN C op ty x K=(qfN C op ty x some).bind K:=rfl
theorem qlw(ty:TypeId)(x:V)(K:V->Option ρ):qiK C ty x K=(qiK C ty x some).bind K:=rfl
theorem qaT(o:Op)(K:V->Option ρ):evR C o t h K=(evR C o t h some).bind K:=by
 unfold evR
 split
 ·rfl
 ·rfl
 ·exact qmn _ _ _ _
 ·split
  ·exact qkf _ _ _ _
  ·exact qjP _ _ _ _
  ·exact qjX _ _ _ _
  ·exact qlO _ _ _ _ _
 ·exact qlw _ _ _
 ·exact qlV _ _ _
 ·exact qjp _ _ _ _
 ·exact qhH _ _
 ·exact qmC _ _ _
 ·exact qgB _ _ _ _
 ·exact qlD _ _ _ _
 ·exact qgA _ _ _ _
 ·split
  ·exact qhO _ _ _ _
  ·exact qlB _ _ _ _
 ·exact qjd _ _ _
 ·exact qlM _ _ _
 ·split
  ·simp only [qg,Option.bind_some,Option.bind_none]
  ·rfl
 ·split
  ·exact qlp _ _ _ _ _
  ·rfl
 ·split
  ·exact qeG _ _ _ _ _
  ·exact qfD _ _ _ _ _
 ·exact qlE _ _
 ·exact qni _ _
 ·rfl
abbrev trip(v:V)(ss:List (Nat×O))(mk:Option O):Option (V×List (Nat×O)×Option O):=some (v,ss,mk)
theorem qgj(nid:Nat)(ty:TypeId)(n:Nat)(ps:List (Nat×Operand))(K:V->List (Nat×O)->Option O->Option ρ):qas C t h nid ty n ps K=(qas C t h nid ty n ps trip).bind fun p=>K p.1 p.2.1 p.2.2:=by
 unfold qas
 split
 ·rfl
 ·split
  ·rfl
  ·rw [qg]
   split
   ·rfl
   ·split <;> rfl
theorem qfB(nid:Nat)(ty:TypeId)(l c:V)(K:V->List (Nat×O)->Option O->Option ρ):qaF C nid ty l c K=(qaF C nid ty l c trip).bind fun p=>K p.1 p.2.1 p.2.2:=by
 unfold qaF
 split
 ·rfl
 ·split
  ·rfl
  ·cases l <;> simp only [Option.bind_none]
   cases c <;> simp only [qg,Option.bind_some,Option.bind_none]
theorem qgw(nid:Nat)(ty:TypeId)(l c:V)(t:Kt)(K:V->List (Nat×O)->Option O->Option ρ):qbb C nid ty l c t K=(qbb C nid ty l c t trip).bind fun p=>K p.1 p.2.1 p.2.2:=by
 unfold qbb
 split
 ·rfl
 ·cases l <;> simp only [Option.bind_none]
  cases c <;> simp only [qg,Option.bind_some,Option.bind_none]
theorem qgx(nid:Nat)(ty:TypeId)(l c:V)(K:V->List (Nat×O)->Option O->Option ρ):qbc C nid ty l c K=(qbc C nid ty l c trip).bind fun p=>K p.1 p.2.1 p.2.2:=by
 unfold qbc
 split
 ·exact qgw ..
 ·exact qfB ..
theorem qll(ty:TypeId)(o ver i off:Nat)(v:V)(K:V->List (Nat×O)->Option O->Option ρ):qgI C h ty o ver i off v K=(qgI C h ty o ver i off v trip).bind fun p=>K p.1 p.2.1 p.2.2:=by
 unfold qgI
 split
 ·rfl
 ·split
  ·rw [qg]
   split
   ·rw [qg]
    split <;> rfl
   ·split
    ·rfl
    ·split
     ·rfl
     ·rw [qg];rfl
  ·rfl
theorem qfe(ty:TypeId)(a v:V)(K:V->List (Nat×O)->Option O->Option ρ):qdt C h ty a v K=(qdt C h ty a v trip).bind fun p=>K p.1 p.2.1 p.2.2:=by
 unfold qdt
 split
 ·rfl
 ·rw [qg]
  cases a <;> simp only [Option.bind_none]
  ·split <;> simp only [qg,Option.bind_some,Option.bind_none]
  ·split
   ·rw [qg]
    split <;> rfl
   ·rfl
theorem qlm(ty:TypeId)(a v:V)(K:V->List (Nat×O)->Option O->Option ρ):qgJ C h ty a v K=(qgJ C h ty a v trip).bind fun p=>K p.1 p.2.1 p.2.2:=by
 unfold qgJ
 split
 ·split
  ·exact qll ..
  ·exact qfe ..
 ·exact qfe ..
theorem qgn(nid:Nat)(ty:TypeId)(x y:V)(K:V->List (Nat×O)->Option O->Option ρ):qdI C h nid ty x y K=(qdI C h nid ty x y trip).bind fun p=>K p.1 p.2.1 p.2.2:=by
 unfold qdI
 split
 ·rfl
 ·split
  ·rfl
  ·split
   ·rfl
   ·rw [qg]
    cases x <;> simp only [Option.bind_none,qg,Option.bind_some]
    split
    ·rw [qg]
     split
     ·rfl
     ·rw [qg];rfl
    ·rfl
theorem qeR(nid:Nat)(ty:TypeId)(x y:V)(K:V->List (Nat×O)->Option O->Option ρ):qcB C h nid ty x y K=(qcB C h nid ty x y trip).bind fun p=>K p.1 p.2.1 p.2.2:=by
 unfold qcB
 split
 ·rfl
 ·split
  ·rfl
  ·rw [qg]
   split
   ·rfl
   ·cases x <;> simp only [Option.bind_none,qg,Option.bind_some]
    split
    ·rw [qg]
     split
     ·rfl
     ·rw [qg];rfl
    ·rfl
theorem qks(nid:Nat)(ty:TypeId)(x y:V)(K:V->List (Nat×O)->Option O->Option ρ):qez C h nid ty x y K=(qez C h nid ty x y trip).bind fun p=>K p.1 p.2.1 p.2.2:=by
 unfold qez
 split
 ·exact qgn ..
 ·split
  ·exact qgn ..
  ·exact qeR ..
 ·exact qeR ..
theorem qne(ty:TypeId)(x y:V)(K:V->List (Nat×O)->Option O->Option ρ):copyK C h ty x y K=(copyK C h ty x y trip).bind fun p=>K p.1 p.2.1 p.2.2:=by
 unfold copyK
 split
 ·rfl
 ·split
  ·rfl
  ·split
   ·rfl
   ·cases x <;> simp only [Option.bind_none]
    ·split
     ·rw [qg]
      split <;> rfl
     ·rfl
    ·split
     ·rw [qg]
      split <;> rfl
     ·rfl
theorem qiN(nid:Nat)(ty:TypeId)(rs:Option V)(K:V->List (Nat×O)->Option O->Option ρ):qcY C nid ty rs K=(qcY C nid ty rs trip).bind fun p=>K p.1 p.2.1 p.2.2:=by
 unfold qcY
 split
 ·split
  ·rfl
  ·split <;> rfl
 ·split <;> rfl
theorem qfy(ty:TypeId)(m k x:V)(K:V->List (Nat×O)->Option O->Option ρ):qbo C h ty m k x K=(qbo C h ty m k x trip).bind fun p=>K p.1 p.2.1 p.2.2:=rfl
theorem qjO(nid:Nat)(ty:TypeId)(x:V)(K:V->List (Nat×O)->Option O->Option ρ):qfr C h nid ty x K=(qfr C h nid ty x trip).bind fun p=>K p.1 p.2.1 p.2.2:=rfl
theorem qfz(ty:TypeId)(m k x:V)(K:V->List (Nat×O)->Option O->Option ρ):qbp C h ty m k x K=(qbp C h ty m k x trip).bind fun p=>K p.1 p.2.1 p.2.2:=rfl
theorem qdk(ty:TypeId)(m k x:V)(K:V->List (Nat×O)->Option O->Option ρ):qaE C h ty m k x K=(qaE C h ty m k x trip).bind fun p=>K p.1 p.2.1 p.2.2:=by
 unfold qaE
 split
 ·exact qfz _ _ _ _ _
 ·rw [qg]
  congr 1
  split
  ·rfl
  ·split <;> rfl
theorem qhL(ty:TypeId)(m k:V)(K:V->List (Nat×O)->Option O->Option ρ):qcb C h ty m k K=(qcb C h ty m k trip).bind fun p=>K p.1 p.2.1 p.2.2:=rfl
theorem qgb(ty:TypeId)(m s x:V)(K:V->List (Nat×O)->Option O->Option ρ):qbs C h ty m s x K=(qbs C h ty m s x trip).bind fun p=>K p.1 p.2.1 p.2.2:=rfl
theorem qlu(nid:Nat)(ty:TypeId)(x:V)(K:V->List (Nat×O)->Option O->Option ρ):qiE C h nid ty x K=(qiE C h nid ty x trip).bind fun p=>K p.1 p.2.1 p.2.2:=rfl
theorem qkn(ty:TypeId)(m k:V)(K:V->List (Nat×O)->Option O->Option ρ):qex C h ty m k K=(qex C h ty m k trip).bind fun p=>K p.1 p.2.1 p.2.2:=by
 unfold qex
 split
 ·rfl
 ·rw [qg]
  congr 1
  split <;> rfl
theorem qlH(ty:TypeId)(m:V)(K:V->List (Nat×O)->Option O->Option ρ):qhh C h ty m K=(qhh C h ty m trip).bind fun p=>K p.1 p.2.1 p.2.2:=by
 unfold qhh
 split
 ·rfl
 ·rw [qg];rfl
theorem qid(ty:TypeId)(m:V)(K:V->List (Nat×O)->Option O->Option ρ):qck C h ty m K=(qck C h ty m trip).bind fun p=>K p.1 p.2.1 p.2.2:=by
 unfold qck
 repeat' (first | rfl | split | rw [qg];congr 1)
theorem qaS(o:Op)(nid:Nat)(K:V->List (Nat×O)->Option O->Option ρ):evS C o t h nid K=(evS C o t h nid trip).bind fun p=>K p.1 p.2.1 p.2.2:=by
 unfold evS
 split
 ·split <;> rfl
 ·rw [qg];rfl
 ·exact qgj _ _ _ _ _
 ·exact qgx _ _ _ _ _
 ·exact qlm _ _ _ _
 ·exact qiN _ _ _ _
 ·split
  ·exact qfy _ _ _ _ _
  ·exact qdk _ _ _ _ _
 ·exact qdk _ _ _ _ _
 ·exact qhL _ _ _ _
 ·exact qgb _ _ _ _ _
 ·split
  ·exact qjO _ _ _ _
  ·exact qlu _ _ _ _
 ·rw [qg]
  congr 1
  ·split
   ·exact qkn _ _ _ _
   ·rfl
  rw [qg]
  congr 1
  ·split
   ·split
    ·exact qlH _ _ _
    ·exact qid _ _ _
   ·rfl
  split
  ·rw [qg,qg,qks,qne];rfl
  ·rfl
 ·rfl
abbrev two(v:V)(h:List O):Option (V×List O):=some (v,h)
theorem qlL(f o ver:Nat)(q:Nst)(d:q.sh.den)(i:Nat)(args:List V)(K:V->List O->Option ρ):qjv C h f o ver q d i args K=(qjv C h f o ver q d i args two).bind fun p=>K p.1 p.2:=rfl
theorem qlJ(f:V)(args:List V)(K:V->List O->Option ρ):qjs C h f args K=(qjs C h f args two).bind fun p=>K p.1 p.2:=by
 unfold qjs
 split
 ·split
  ·rename_i p _
   simp only [p.spOk]
   cases p.r <;> rfl
  ·split
   ·exact qlL _ _ _ _ _ _ _ _
   ·rfl
 ·rfl
theorem qlN(o:Op)(K:V->List O->Option ρ)(K':Option ρ)(K2:Option (V×List O))(hk:K'=K2.bind fun p=>K p.1 p.2):qhm C o t h K K'=(qhm C o t h two K2).bind fun p=>K p.1 p.2:=hk
theorem qoA(o:Op)(K:V->List O->Option ρ):evW C o t h K=(evW C o t h two).bind fun p=>K p.1 p.2:=by
 unfold evW
 rw [qg]
 congr 1
 ·rw [qaS o h.length (fun v ss mk=>K v (qy ss h++mk.toList)),qaS o h.length (fun v ss mk=>two v (qy ss h++mk.toList))]
  cases evS C o t h h.length trip <;> rfl
 ·split
  ·exact qlJ _ _ _
  split
  ·rw [qg];rfl
  split
  ·rw [qg];rfl
  ·refine qlN _ _ _ _ ?_
   rw [qaT o (fun v=>K v h),qaT o (fun v=>two v h)]
   cases evR C o t h some <;> rfl
theorem qcR(f:V)(args:List V)(K:O->Option ρ):callN C f args K=(callN C f args some).bind K:=by
 unfold callN
 split
 ·rw [qg]
  congr 1
  split
  ·rfl
  ·split
   ·rfl
   ·rename_i p _ _ _ _
    simp only [p.spOk]
    cases p.r with
    | none=>rfl
    | some a=>
     simp only [Option.bind_some]
     split <;> rfl
 ·rfl
theorem qnh(ids:List Nat)(f:V)(args:List V)(K:V->List O->Option ρ):callS C h ids f args K=(callS C h ids f args two).bind fun p=>K p.1 p.2:=by
 unfold callS
 split
 ·rw [qg]
  congr 1
  split
  ·rfl
  ·split
   ·rfl
   ·rename_i p _ _ _ _
    simp only [p.spOk]
    cases p.r with
    | none=>rfl
    | some a=>simp only [Option.bind_some,qg];rfl
 ·rfl
theorem qoC(o:Op)(md:Md)(K:V->List O->Option ρ):evM C o t h md K=(evM C o t h md two).bind fun p=>K p.1 p.2:=by
 cases md with
 | pure=>simp only [evM];rw [qaT o (fun v=>K v h),qaT o (fun v=>two v h)];cases evR C o t [] some <;> rfl
 | rd ids=>simp only [evM];rw [qaT o (fun v=>K v h),qaT o (fun v=>two v h)];cases evR C o t (onlyF (memN ids) 0 h) some <;> rfl
 | wr ids=>
  simp only [evM,qg,Option.bind_none]
  congr 1
  ·refine (qaS o 0 _).trans (Eq.trans ?_ (congrArg (fun z=>Option.bind z fun p:V×List O=>K p.1 p.2) (qaS o 0 _).symm))
   cases evS C o t (onlyF (memN ids) 0 h) 0 trip with
   | none=>rfl
   | some p=>
    obtain⟨v,ss,mk⟩:=p
    cases mk <;> simp only [Option.bind_some,qg,Option.bind_none]
  ·split
   ·exact qnh _ _ _ _
   ·split
    ·split <;> simp only [qg,Option.bind_none] <;> rfl
    ·split <;> simp only [qg,Option.bind_none] <;> rfl
 | new id=>
  simp only [evM,qg,Option.bind_none]
  congr 1
  ·refine (qaS o id _).trans (Eq.trans ?_ (congrArg (fun z=>Option.bind z fun p:V×List O=>K p.1 p.2) (qaS o id _).symm))
   cases evS C o t [] id trip with
   | none=>rfl
   | some p=>
    obtain⟨v,ss,mk⟩:=p
    cases ss <;> cases mk <;> simp only [Option.bind_some,Option.bind_none]
    split <;> simp only [qg,Option.bind_some,Option.bind_none]
  split
  ·refine (qcR _ _ _).trans (Eq.trans ?_ (congrArg (fun z=>Option.bind z fun p:V×List O=>K p.1 p.2) (qcR _ _ _).symm))
   cases callN C _ _ some with
   | none=>rfl
   | some x=>
    simp only [Option.bind_some]
    split <;> simp only [qg,Option.bind_some,Option.bind_none]
  ·rfl
 | full=>exact qoA o K
end
end Go.Abs
namespace Go.Abs
section
variable {ρ : Type} {C : Ctx} {h h' : List O} {t t' : Nat -> V}
def Same(t t':Nat->V)(o:Op):Prop:=∀ i∈qod o,t i=t' i
theorem qnO{x:Operand}(hx:∀ i,x=.tmp i->t i=t' i):ev t x=ev t' x:=by
 cases x with
 | tmp i=>exact hx i rfl
 | _=>rfl
theorem Same.ev{o:Op}(hs:Same t t' o){x:Operand}(hx:x∈o.operands):ev t x=ev t' x:=
 qnO fun i hi=>hs i (by
  subst hi
  exact List.mem_filterMap.2 ⟨.tmp i,by simpa using hx,rfl⟩)
theorem qdD{place:Nat->Option (Nat×Nat)}:(ps:List (Nat×Operand))->(vs:List V)->(∀ p∈ps,ev t p.2=ev t' p.2)->fillV place t ps vs=fillV place t' ps vs
 | [],vs,_=>rfl
 | (i,x) :: r,vs,hp=>by
  have hx:=hp (i,x) (by simp)
  simp only at hx
  simp only [fillV,hx]
  split
  ·rfl
  ·rw [qdD r _ fun p hm=>hp p (by simp [hm])]
theorem qcX{xs:List Operand}(hx:∀ x∈xs,ev t x=ev t' x):xs.map (ev t)=xs.map (ev t'):=List.map_congr_left hx
theorem qkp{c:Call}(hx:∀ x∈c.operands,ev t x=ev t' x)(K:V->Option ρ):callR C t h c K=callR C t' h c K:=by
 have hargs:∀ x∈c.args,ev t x=ev t' x:=fun x hm=>hx x (by simp [Call.operands,hm])
 have hm:=qcX (t:=t) (t':=t') (xs:=c.args.toList) (fun x hm=>hargs x (by simpa using hm))
 unfold callR
 split
 ·split
  ·split
   ·rename_i x ty e _
    rw [hargs x (zAO e)]
   ·rfl
  ·rw [hm]
  ·rw [hm]
  ·rfl
 ·have:callT C.T t (.call c)=callT C.T t' (.call c):=by
   unfold callT
   simp only
   split
   ·rename_i f hf
    rw [hm,hx f (by simp [Call.operands,hf])]
   ·rename_i r nm hf
    rw [hm,hx r (by simp [Call.operands,hf])]
   ·rfl
  rw [this]
theorem qga{o:Op}(hs:Same t t' o)(K:V->Option ρ):evR C o t h K=evR C o t' h K:=by
 have hev:∀ x∈o.operands,ev t x=ev t' x:=fun x hx=>hs.ev hx
 cases o <;> simp only [Op.operands] at hev <;> simp only [evR]
 case build ty ps=>
  unfold qgk
  have:=fun place vs=>qdD (place:=place) ps.toList vs (fun p hp=>hev p.2 (by simp;exact⟨p.1,by simpa using hp⟩))
  simp only [this]
 case makeFunc fn first caps=>
  rw [qcX (xs:=caps.toList) fun x hx=>hev x (by simp;exact .inr (by simpa using hx)),qcX (xs:=first.toList) fun x hx=>hev x (by simp;exact .inl (by simpa using hx))]
 case slice ty x lo hi mx=>
  have h1:=hev x (by simp)
  have h2:∀ d (K:Int->Option ρ),qbm t lo d K=qbm t' lo d K:=fun d K=>by
   cases lo with
   | none=>rfl
   | some y=>simp only [qbm,hev y (by simp)]
  have h3:∀ d (K:Int->Option ρ),qbm t hi d K=qbm t' hi d K:=fun d K=>by
   cases hi with
   | none=>rfl
   | some y=>simp only [qbm,hev y (by simp)]
  cases mx <;> simp only [qfg,qdu,h1,h2,h3]
 case call c=>exact qkp (by simpa using hev) K
 all_goals (first | rfl | (simp_all;done))
theorem qfY{o:Op}(hs:Same t t' o)(nid:Nat)(K:V->List (Nat×O)->Option O->Option ρ):evS C o t h nid K=evS C o t' h nid K:=by
 have hev:∀ x∈o.operands,ev t x=ev t' x:=fun x hx=>hs.ev hx
 cases o <;> simp only [Op.operands] at hev <;> simp only [evS]
 case buildSlice ty n ps=>
  unfold qas
  have:=fun place vs=>qdD (place:=place) ps.toList vs (fun p hp=>hev p.2 (by simp;exact⟨p.1,by simpa using hp⟩))
  simp only [this]
 case call c=>
  have hargs:∀ x∈c.args,ev t x=ev t' x:=fun x hm=>hev x (by simp [Call.operands,hm])
  congr 1
  ·split
   ·rename_i x y ty e1 e2 _
    rw [hargs x (zAO e1),hargs y (zAO e2)]
   ·rfl
  congr 1
  ·split
   ·rename_i x ty e1 _
    rw [hargs x (zAO e1)]
   ·rfl
  split
  ·rename_i x y ty ty' e1 e2 _ _
   rw [hargs x (zAO e1),hargs y (zAO e2)]
  ·rfl
 case makeMap ty rs=>
  cases rs with
  | none=>rfl
  | some x=>simp only [Option.map_some,hev x (by simp)]
 all_goals (first | rfl | (simp_all;done))
theorem qdG{T:List (Nat×TE)}{o:Op}(hs:Same t t' o):callT T t o=callT T t' o:=by
 unfold callT
 split
 ·rename_i c
  have hc:∀ x∈c.operands,ev t x=ev t' x:=fun x hx=>hs.ev (by simpa [Op.operands] using hx)
  have hm:=qcX (t:=t) (t':=t') (xs:=c.args.toList) (fun x hm=>hc x (by simp [Call.operands];exact .inr (by simpa using hm)))
  split
  ·rename_i f hf
   rw [hm,hc f (by simp [Call.operands,hf])]
  ·rename_i r nm hf
   rw [hm,hc r (by simp [Call.operands,hf])]
  ·rfl
 ·rfl
theorem qjy{o:Op}(hs:Same t t' o)(K:V->List O->Option ρ)(K':Option ρ):qhm C o t h K K'=qhm C o t' h K K':=rfl
theorem qfd{o:Op}(hs:Same t t' o)(nid:Nat):takeO C o t h nid=takeO C o t' h nid:=by
 cases o with
 | lookup ty x i ok=>
  have e1:=hs.ev (x:=x) (by simp [Op.operands])
  have e2:=hs.ev (x:=i) (by simp [Op.operands])
  cases ok <;> simp only [takeO,e1,e2]
 | load ty x=>
  have e1:=hs.ev (x:=x) (by simp [Op.operands])
  simp only [takeO,e1]
 | _=>rfl
theorem qgf{o:Op}(hs:Same t t' o):dropO C o t h=dropO C o t' h:=by
 cases o with
 | slice ty x lo hi mx=>
  have e1:=hs.ev (x:=x) (by simp [Op.operands])
  cases lo with
  | none=>rfl
  | some lo=>
   have e2:=hs.ev (x:=lo) (by simp [Op.operands])
   cases hi <;> cases mx <;> first | rfl | simp only [dropO,e1,e2]
 | _=>rfl
theorem qmW{o:Op}(hs:Same t t' o)(md:Md)(K:V->List O->Option ρ):evM C o t h md K=evM C o t' h md K:=by
 cases md <;> simp only [evM]
 ·exact qga hs _
 ·exact qga hs _
 ·rw [qfY hs,qdG hs,qfd hs,qgf hs]
 ·rw [qfY hs,qdG hs]
 ·unfold evW
  rw [qfY hs,qga hs,qdG hs,qjy hs,qfd hs,qgf hs]
def Md.sees:Md->Nat->Prop
 | .pure,_=>False
 | .rd ids,i=>memN ids i=true
 | .wr ids,i=>memN ids i=true
 | .new id,i=>i=id
 | .full,_=>True
def Md.foot:Md->Nat->Prop
 | .pure,_=>False
 | .rd _,_=>False
 | .wr ids,i=>memN ids i=true
 | .new id,i=>i=id
 | .full,_=>True
def Md.isFull:Md->Bool
 | .full=>true
 | _=>false
def Md.isPure:Md->Bool
 | .pure=>true
 | _=>false
structure Agree (md:Md) (h h':List O):Prop where
 len:md.isPure=false->h.length=h'.length
 get:∀ i,md.sees i->getO h i=getO h' i
theorem qdZ{h h':List O}(hl:h.length=h'.length)(hg:∀ i,getO h i=getO h' i):h=h':=by
 apply List.ext_getElem hl
 intro i h1 h2
 have:=hg i
 simpa [getO,List.getD,h1,h2] using this
theorem qcK(p:Nat->Bool):(i:Nat)->(h:List O)->(onlyF p i h).length=h.length
 | _,[]=>rfl
 | i,x :: h=>by simp [onlyF,qcK p (i+1) h]
theorem qdy{ids:List Nat}(hl:h.length=h'.length)(hg:∀ i,memN ids i=true->getO h i=getO h' i):onlyF (memN ids) 0 h=onlyF (memN ids) 0 h':=by
 apply qdZ
 ·rw [qcK,qcK,hl]
 ·intro i
  rw [qcL,qcL,Nat.zero_add]
  split
  ·exact hg i ‹_›
  ·rfl
theorem qbN:(ss:List (Nat×O))->(h:List O)->(i:Nat)->(∀ p∈ss,p.1≠i)->getO (qy ss h) i=getO h i
 | [],h,i,_=>rfl
 | (j,x) :: r,h,i,hp=>by
  simp only [qy]
  rw [qbN r _ i fun p hm=>hp p (by simp [hm])]
  have:=hp (j,x) (by simp)
  simp only at this
  simp [getO,List.getD,zAc this]
theorem qaz{h h':List O}(hl:h.length=h'.length){i j:Nat}{x:O}(hg:getO h i=getO h' i):getO (h.set j x) i=getO (h'.set j x) i:=by
 simp only [getO,List.getD,zAJ] at hg ⊢
 rw [hl]
 split
 ·rfl
 ·exact hg
theorem qaR:(ss:List (Nat×O)) -> {h h':List O}->h.length=h'.length->(i:Nat)->getO h i=getO h' i->getO (qy ss h) i=getO (qy ss h') i
 | [],h,h',_,i,hg=>hg
 | (j,x) :: r,h,h',hl,i,hg=>qaR r (by simp [hl]) i (qaz hl hg)
theorem qhk{h:List O}{ids:List Nat}{f:V}{args:List V}{v:V}{H:List O}(he:callS C h ids f args two=some (v,H)) :
  ∃ g caps p u a,f=.clo g caps/\qL ids (argsF g args caps)=true/\clsd ids (onlyF (memN ids) 0 h)=true/\C.G (tgtF g) (argsF g args caps) (onlyF (memN ids) 0 h)=some p/\p.h=some u/\p.r=some a /\
   (u a (onlyF (memN ids) 0 h)).length=h.length/\qdz (memN ids) 0 (u a (onlyF (memN ids) 0 h))=true/\v=p.v a/\H=mixF (memN ids) 0 (u a (onlyF (memN ids) 0 h)) h:=by
 unfold callS at he
 split at he
 ·rename_i g caps
  obtain⟨hc,he⟩:=qc he
  rw [zB] at hc
  split at he
  ·cases he
  ·rename_i p hp
   split at he
   ·cases he
   ·rename_i u hu
    cases hr:p.r with
    | none=>rw [hr] at he;cases he
    | some a=>
     rw [hr] at he
     simp only [Option.bind_some,p.spOk] at he
     obtain⟨hl,he⟩:=qc he
     rw [zB] at hl
     cases he
     exact⟨g,caps,p,u,a,rfl,hc.1,hc.2,hp,hu,hr,zA hl.1,hl.2,rfl,rfl⟩
 ·cases he
theorem qlb{o:Op}{md:Md}{v:V}{H:List O}(he:evM C o t h md two=some (v,H)):(∀ i,¬ md.foot i->getO H i=getO h i)/\(md.isFull=false->H.length=h.length):=by
 cases md with
 | pure=>
  simp only [evM] at he
  rw [qaT o] at he
  obtain⟨u,_,he⟩:=zS.1 he
  cases he
  exact⟨fun _ _=>rfl,fun _=>rfl⟩
 | rd ids=>
  simp only [evM] at he
  rw [qaT o] at he
  obtain⟨u,_,he⟩:=zS.1 he
  cases he
  exact⟨fun _ _=>rfl,fun _=>rfl⟩
 | wr ids=>
  simp only [evM] at he
  cases hS:isS o with
  | false=>
   rw [hS,cond_false] at he
   split at he
   ·obtain⟨g,caps,p,u,a,-,-,-,-,-,-,hl,-,-,rfl⟩:=qhk he
    exact⟨fun i hn=>by rw [qdS _ _ _ _ hl,Nat.zero_add,zR (show ¬ memN ids i=true from hn)],fun _=>qfv _ _ _ _ hl⟩
   ·split at he
    ·rename_i p hp
     split at he
     ·rename_i hg
      obtain⟨hi,he⟩:=qc he
      simp only [zB] at hi
      obtain⟨_,he⟩:=qc he
      cases he
      refine⟨fun i hn=>?_,fun _=>by rw [zAY,qJ]⟩
      have hne:ids.headD 0≠i:=fun e=>hn (by rw [<- e];exact hi.1)
      have e1:getO ((qy p.2.1 h).set (ids.headD 0) p.2.2) i=getO (qy p.2.1 h) i:=by unfold getO;rw [zF,zF,zAc hne]
      rw [e1]
      refine qbN p.2.1 h i fun q hq e=>hn ?_
      have:=zd.1 hi.2.2 q hq
      rw [e] at this
      exact this
     ·cases he
    ·split at he
     ·rename_i p hp
      obtain⟨hi,he⟩:=qc he
      cases he
      refine⟨fun i hn=>?_,fun _=>by rw [zAY]⟩
      rw [zB] at hi
      have hne:p.2.2.1≠i:=fun e=>hn (by rw [<- e];exact hi.1)
      unfold getO;rw [zF,zF,zAc hne]
     ·cases he
  | true=>
  rw [hS,cond_true] at he
  rw [qaS o] at he
  obtain⟨⟨u,ss,mk⟩,_,he⟩:=zS.1 he
  cases mk with
  | some x=>cases he
  | none=>
   simp only at he
   obtain⟨hi,he⟩:=qc he
   cases he
   refine⟨fun i hn=>qbN ss h i fun p hp e=>hn ?_,fun _=>qJ _ _⟩
   have:=zd.1 hi p hp
   rw [e] at this
   exact this
 | new id=>
  simp only [evM] at he
  cases hS:isS o with
  | true=>
   rw [hS,cond_true,qaS o] at he
   obtain⟨⟨u,ss,mk⟩,_,he⟩:=zS.1 he
   cases ss with
   | cons p ss=>cases he
   | nil=>
    cases mk with
    | none=>cases he
    | some x=>
     simp only at he
     cases hg:getO h id with
     | none=>
      rw [hg] at he
      simp only at he
      obtain⟨_,he⟩:=qc he
      cases he
      refine⟨fun i hn=>?_,fun _=>by simp⟩
      have hn:id≠i:=fun e=>hn e.symm
      simp [getO,List.getD,zAc hn]
     | cells vs=>rw [hg] at he;cases he
     | nst _ _ _=>rw [hg] at he;cases he
     | kds _ _ _ _ _=>rw [hg] at he;cases he
     | gone=>rw [hg] at he;cases he
     | oth fz q d=>rw [hg] at he;cases he
     | row fz ver e s xs=>rw [hg] at he;cases he
  | false=>
   rw [hS,cond_false] at he
   split at he
   ·rw [qcR] at he
    obtain⟨x,_,he⟩:=zS.1 he
    cases hg:getO h id with
    | none=>
     rw [hg] at he
     simp only at he
     obtain⟨_,he⟩:=qc he
     cases he
     refine⟨fun i hn=>?_,fun _=>by simp⟩
     have hn:id≠i:=fun e=>hn e.symm
     simp [getO,List.getD,zAc hn]
    | cells vs=>rw [hg] at he;cases he
    | nst _ _ _=>rw [hg] at he;cases he
    | kds _ _ _ _ _=>rw [hg] at he;cases he
    | gone=>rw [hg] at he;cases he
    | oth fz q d=>rw [hg] at he;cases he
    | row fz ver e s xs=>rw [hg] at he;cases he
   ·cases he
 | full=>exact⟨fun i hn=>absurd trivial hn,fun hf=>by cases hf⟩
theorem qmV{o:Op}{md:Md}{v:V}{H:List O}(ha:Agree md h h')(he:evM C o t h md two=some (v,H)) :
  ∃ H',evM C o t h' md two=some (v,H')/\∀ i,md.foot i->getO H i=getO H' i:=by
 cases md with
 | pure=>
  simp only [evM] at he ⊢
  rw [qaT o] at he
  obtain⟨u,h1,he⟩:=zS.1 he
  cases he
  refine⟨h',?_,fun i hf=>hf.elim⟩
  rw [qaT o,h1];rfl
 | rd ids=>
  simp only [evM] at he ⊢
  rw [qaT o] at he
  obtain⟨u,h1,he⟩:=zS.1 he
  cases he
  refine⟨h',?_,fun i hf=>hf.elim⟩
  rw [qaT o,<- qdy (ha.len rfl) ha.get,h1];rfl
 | wr ids=>
  simp only [evM] at he ⊢
  have hof:=qdy (ids:=ids) (ha.len rfl) ha.get
  cases hS:isS o with
  | false=>
   rw [hS,cond_false] at he
   rw [cond_false]
   split at he
   ·rename_i f args hc
    obtain⟨g,caps,p,u,a,e1,e2,e3,e4,e5,e6,hl,e7,rfl,rfl⟩:=qhk he
    have hl':(u a (onlyF (memN ids) 0 h')).length=h'.length:=by rw [<- hof,hl];exact ha.len rfl
    refine⟨mixF (memN ids) 0 (u a (onlyF (memN ids) 0 h')) h',?_,fun i hf=>?_⟩
    ·simp only [callS,e1,e2,<- hof,e3,Bool.and_self,cond_true,e4,e5,e6,Option.bind_some,p.spOk,e7]
     rw [show Nat.beq (u a (onlyF (memN ids) 0 h)).length h'.length=true by rw [hof,hl'];exact Nat.beq_refl _];rfl
    ·rw [qdS _ _ _ _ hl,qdS _ _ _ _ hl',Nat.zero_add,zG (show memN ids i=true from hf),zG (show memN ids i=true from hf),hof]
   ·rw [<- hof]
    split at he
    ·rename_i p hp
     split at he
     ·rename_i hg
      obtain⟨hi,he⟩:=qc he
      have hi':=hi
      simp only [zB] at hi'
      obtain⟨hgo,he⟩:=qc he
      cases he
      have hg':getO h' (ids.headD 0)=.none:=by rw [<- ha.get _ hi'.1,hg]
      refine⟨(qy p.2.1 h').set (ids.headD 0) p.2.2,?_,fun i hf=>qaz (by rw [qJ,qJ];exact ha.len rfl) (qaR p.2.1 (ha.len rfl) i (ha.get i hf))⟩
      simp only [hg',<- ha.len rfl,hi,hgo,cond_true]
     ·cases he
    ·split at he
     ·rename_i p hp
      obtain⟨hi,he⟩:=qc he
      cases he
      exact⟨h'.set p.2.2.1 p.2.2.2,by simp only [hi,cond_true],fun i hf=>qaz (ha.len rfl) (ha.get i hf)⟩
     ·cases he
  | true=>
  rw [hS,cond_true] at he
  rw [qaS o] at he
  obtain⟨⟨u,ss,mk⟩,h1,he⟩:=zS.1 he
  cases mk with
  | some x=>cases he
  | none=>
   simp only at he
   obtain⟨hi,he⟩:=qc he
   cases he
   refine⟨qy ss h',?_,fun i hf=>qaR ss (ha.len rfl) i (ha.get i hf)⟩
   rw [cond_true,qaS o,<- qdy (ha.len rfl) ha.get,h1]
   simp only [Option.bind_some,hi,cond_true]
 | new id=>
  simp only [evM] at he ⊢
  cases hS:isS o with
  | true=>
   rw [hS,cond_true,qaS o] at he
   obtain⟨⟨u,ss,mk⟩,h1,he⟩:=zS.1 he
   cases ss with
   | cons p ss=>cases he
   | nil=>
    cases mk with
    | none=>cases he
    | some x=>
     simp only at he
     cases hg:getO h id with
     | none=>
      rw [hg] at he
      simp only at he
      obtain⟨hlt,he⟩:=qc he
      cases he
      have hg':getO h' id=.none:=by rw [<- ha.get id rfl,hg]
      refine⟨h'.set id x,?_,fun i hf=>?_⟩
      ·rw [cond_true,qaS o,h1]
       simp only [Option.bind_some,hg',<- ha.len rfl,hlt,cond_true]
      ·exact qaz (ha.len rfl) (ha.get i hf)
     | cells vs=>rw [hg] at he;cases he
     | nst _ _ _=>rw [hg] at he;cases he
     | kds _ _ _ _ _=>rw [hg] at he;cases he
     | gone=>rw [hg] at he;cases he
     | oth fz q d=>rw [hg] at he;cases he
     | row fz ver e s xs=>rw [hg] at he;cases he
  | false=>
   rw [hS,cond_false] at he
   rw [cond_false]
   split at he
   ·rename_i f args hc
    rw [qcR] at he
    obtain⟨x,h1,he⟩:=zS.1 he
    cases hg:getO h id with
    | none=>
     rw [hg] at he
     simp only at he
     obtain⟨hlt,he⟩:=qc he
     cases he
     have hg':getO h' id=.none:=by rw [<- ha.get id rfl,hg]
     refine⟨h'.set id x,?_,fun i hf=>?_⟩
     ·rw [qcR,h1]
      simp only [Option.bind_some,hg',<- ha.len rfl,hlt,cond_true]
     ·exact qaz (ha.len rfl) (ha.get i hf)
    | cells vs=>rw [hg] at he;cases he
    | nst _ _ _=>rw [hg] at he;cases he
    | kds _ _ _ _ _=>rw [hg] at he;cases he
    | gone=>rw [hg] at he;cases he
    | oth fz q d=>rw [hg] at he;cases he
    | row fz ver e s xs=>rw [hg] at he;cases he
   ·cases he
 | full=>
  have:h=h':=qdZ (ha.len rfl) fun i=>ha.get i trivial
  subst this
  exact⟨H,he,fun _ _=>rfl⟩
theorem qdU{a b:List Nat}(hd:disj a b=true){i:Nat}(ha:memN a i=true)(hb:memN b i=true):False:=by
 unfold memN at ha
 obtain⟨x,hx,he⟩:=List.any_eq_true.1 ha
 have he:=zA he
 subst he
 have:=zd.1 hd i hx
 simp [hb] at this
theorem qmB{a b:Md}(hm:mdOk a b=true):(∀ i,a.foot i->¬ b.sees i)/\(∀ i,b.foot i->¬ a.sees i)/\(a.isFull=true->b.isPure=true)/\(b.isFull=true->a.isPure=true):=by
 have hne:∀ {ids:List Nat} {j:Nat},(!memN ids j)=true->memN ids j=true->False:=fun {ids j} h1 h2=>by simp [h2] at h1
 cases a <;> cases b <;> simp only [mdOk,zB,zl] at hm <;>
  refine⟨fun i hf hs=>?_,fun i hf hs=>?_,fun hh=>?_,fun hh=>?_⟩ <;>
  simp only [Md.foot,Md.sees,Md.isFull,Md.isPure,zl] at * <;>
  first
   | (subst hf;subst hs;simp at hm;done)
   | (subst hf;exact hne hm hs)
   | (subst hs;exact hne hm hf)
   | exact qdU hm hf hs
   | exact qdU hm hs hf
   | exact qdU hm.1 hf hs
   | exact qdU hm.1 hs hf
end
end Go.Abs
namespace Go.Abs
section
variable {ρ : Type} {C : Ctx} {all : List Oper}
abbrev S:=(Nat->V)×List O
def upd(dst:Option Tmp)(v:V)(t:Nat->V):Nat->V:=
 match dst with
 | none=>t
 | some d=>fun i=>bif Nat.beq d i then v else t i
def okDst(n:Nat):Option Tmp->Bool
 | none=>true
 | some d=>Nat.blt d n
def actA(C:Ctx)(all:List Oper)(o:Oper)(md:Md)(t:Nat->V)(h:List O):Option (V×List O):=
 match o.guard with
 | none=>evM C o.op t h md two
 | some (j,want)=>
  match dstOf all j with
  | none=>none
  | some d=>
   match t d with
   | .bool b=>if b=want then evM C o.op t h md two else some (.undef,h)
   | .undef=>some (.undef,h)
   | _=>none
def stepA(C:Ctx)(all:List Oper)(x:Oper×Md)(s:S):Option S:=
 bif okDst C.n x.1.dst then (actA C all x.1 x.2 s.1 s.2).map fun p=>(upd x.1.dst p.1 s.1,p.2) else none
def runA(C:Ctx)(all:List Oper):List (Oper×Md)->S->Option S
 | [],s=>some s
 | x :: r,s=>(stepA C all x s).bind (runA C all r)
def zipM:List Oper->List Md->List (Oper×Md)
 | [],_=>[]
 | o :: r,mds=>(o,mds.headD .full) :: zipM r mds.tail
theorem qiP(d:Nat)(v:V)(t:Slots):look ((d,v) :: t)=upd (some d) v (look t):=rfl
theorem upd_same{t:Nat->V}{d:Nat}{v:V}(h:t d=v):upd (some d) v t=t:=by
 funext i
 simp only [upd]
 cases hb:Nat.beq d i with
 | false=>rfl
 | true=>have:=zA hb;subst this;exact h.symm
theorem qhB{n:Nat}{dst:Option Tmp}{v:V}{t:Slots}{K:Slots->Option ρ}{res:ρ}(h:putD n dst v t K=some res):okDst n dst=true/\∃ t',look t'=upd dst v (look t)/\K t'=some res:=by
 cases dst with
 | none=>exact⟨rfl,t,rfl,h⟩
 | some d=>
  simp only [putD] at h
  obtain⟨h1,h2⟩:=qc h
  exact⟨h1,_,qiP d v t,h2⟩
theorem qcV:(r:List Oper)->(mds:List Md)->(t:Slots)->(h:List O)->(K:Slots->List O->Option ρ) -> {res:ρ}->opsK C all r mds t h K=some res ->
  ∃ t' h',runA C all (zipM r mds) (look t,h)=some (look t',h')/\K t' h'=some res
 | [],mds,t,h,K,res,hk=>⟨t,h,rfl,hk⟩
 | o :: r,mds,t,h,K,res,hk=>by
  have fin:∀ {v:V} {t1:Slots} {H:List O},look t1=look t->actA C all o (mds.headD .full) (look t) h=some (v,H) ->
    putD C.n o.dst v t1 (fun t=>opsK C all r mds.tail t H K)=some res->∃ t' h',runA C all (zipM (o :: r) mds) (look t,h)=some (look t',h')/\K t' h'=some res:=by
   intro v t1 H e1 e2 e3
   obtain⟨h1,t2,h2,h3⟩:=qhB e3
   obtain⟨t3,h4,h5,h6⟩:=qcV r mds.tail t2 H K h3
   refine⟨t3,h4,?_,h6⟩
   simp only [zipM,runA,stepA,h1,cond_true,e2,Option.map_some,Option.bind_some]
   rw [<- e1,<- h2];exact h5
  have evd:∀ {t1:Slots},look t1=look t->evM C o.op (look t1) h (mds.headD .full) (fun v h=>putD C.n o.dst v t1 fun t=>opsK C all r mds.tail t h K)=some res ->
    ∃ v H,evM C o.op (look t) h (mds.headD .full) two=some (v,H)/\putD C.n o.dst v t1 (fun t=>opsK C all r mds.tail t H K)=some res:=by
   intro t1 e1 e2
   rw [qoC] at e2
   obtain⟨⟨v,H⟩,h1,h2⟩:=zS.1 e2
   rw [e1] at h1
   exact⟨v,H,h1,h2⟩
  simp only [opsK] at hk
  cases hg:o.guard with
  | none=>
   rw [hg] at hk
   simp only at hk
   obtain⟨v,H,h1,h2⟩:=evd rfl hk
   exact fin rfl (by simp only [actA,hg];exact h1) h2
  | some gw=>
   obtain⟨j,want⟩:=gw
   rw [hg] at hk
   simp only at hk
   cases hd:dstOf all j with
   | none=>rw [hd] at hk;cases hk
   | some d=>
    rw [hd] at hk
    simp only at hk
    cases ht:look t d with
    | bool b=>
     rw [ht] at hk
     simp only at hk
     have hup:look ((d,.bool b) :: t)=look t:=by rw [qiP,upd_same ht]
     cases b with
     | true=>
      simp only [cond_true] at hk
      cases want with
      | true=>
       simp only [cond_true] at hk
       obtain⟨v,H,h1,h2⟩:=evd hup hk
       exact fin hup (by simp only [actA,hg,hd,ht,if_true];exact h1) h2
      | false=>
       simp only [cond_false] at hk
       exact fin hup (by simp [actA,hg,hd,ht]) hk
     | false=>
      simp only [cond_false] at hk
      cases want with
      | true=>
       simp only [cond_true] at hk
       exact fin hup (by simp [actA,hg,hd,ht]) hk
      | false=>
       simp only [cond_false] at hk
       obtain⟨v,H,h1,h2⟩:=evd hup hk
       exact fin hup (by simp only [actA,hg,hd,ht,if_true];exact h1) h2
    | undef=>
     rw [ht] at hk
     exact fin rfl (by simp [actA,hg,hd,ht]) hk
    | _=>rw [ht] at hk;cases hk
theorem qdg{o:Oper}{md:Md}{t t':Nat->V}{h:List O}(hs:∀ i∈reads all o,t i=t' i):actA C all o md t h=actA C all o md t' h:=by
 have h1:Same t t' o.op:=fun i hi=>hs i (zQ _ hi)
 have h2:=qmW (C:=C) (h:=h) h1 md two
 unfold actA
 cases hg:o.guard with
 | none=>exact h2
 | some gw=>
  obtain⟨j,want⟩:=gw
  simp only
  cases hd:dstOf all j with
  | none=>rfl
  | some d=>
   have:=hs d (zf _ (by simp [qkV,hg,hd]))
   simp only [this,h2]
theorem qfQ{md:Md}{i:Nat}(h:md.foot i):md.sees i:=by
 cases md <;> simp_all [Md.foot,Md.sees]
theorem qee{o:Oper}{md:Md}{t:Nat->V}{h:List O}{v:V}{H:List O}(he:actA C all o md t h=some (v,H)):(∀ i,¬ md.foot i->getO H i=getO h i)/\(md.isFull=false->H.length=h.length):=by
 unfold actA at he
 split at he
 ·exact qlb he
 ·split at he
  ·cases he
  ·split at he
   ·split at he
    ·exact qlb he
    ·cases he;exact⟨fun _ _=>rfl,fun _=>rfl⟩
   ·cases he;exact⟨fun _ _=>rfl,fun _=>rfl⟩
   ·cases he
theorem qlj{o:Oper}{md:Md}{t:Nat->V}{h h':List O}{v:V}{H:List O}(ha:Agree md h h')(he:actA C all o md t h=some (v,H)) :
  ∃ H',actA C all o md t h'=some (v,H')/\∀ i,md.foot i->getO H i=getO H' i:=by
 unfold actA at he ⊢
 split at he
 ·exact qmV ha he
 ·split at he
  ·cases he
  ·split at he
   ·split at he
    ·rename_i hb;subst hb
     simp only [if_true]
     exact qmV ha he
    ·rename_i hb
     cases he;exact⟨h',by simp [hb],fun i hf=>ha.get i (qfQ hf)⟩
   ·cases he;exact⟨h',rfl,fun i hf=>ha.get i (qfQ hf)⟩
   ·cases he
theorem qeY{l:List Nat}{i:Nat}:memN l i=true↔i∈l:=by
 unfold memN
 rw [List.any_eq_true]
 exact⟨fun ⟨x,h1,h2⟩=>by rw [zA h2];exact h1,fun h=>⟨i,h,Nat.beq_refl i⟩⟩
theorem qdL{dst:Option Tmp}{l:List Nat}(h:notIn dst l=true){v:V}{t:Nat->V}:∀ i∈l,t i=upd dst v t i:=by
 intro i hi
 cases dst with
 | none=>rfl
 | some d=>
  simp only [upd]
  cases hb:Nat.beq d i with
  | false=>rfl
  | true=>
   have:=zA hb;subst this
   simp only [notIn,qeY.2 hi] at h;cases h
theorem qkw{a b:Option Tmp}(h:qlU a b=true){u v:V}{t:Nat->V}:upd a u (upd b v t)=upd b v (upd a u t):=by
 cases a with
 | none=>rfl
 | some x=>
  cases b with
  | none=>rfl
  | some y=>
   funext i
   simp only [upd]
   cases hx:Nat.beq x i with
   | false=>rfl
   | true=>
    cases hy:Nat.beq y i with
    | false=>rfl
    | true=>
     have e1:=zA hx;have e2:=zA hy
     subst e1;subst e2
     simp [qlU,Nat.beq_refl] at h
theorem qbQ{x:Oper×Md}{s s':S}(h:stepA C all x s=some s'):okDst C.n x.1.dst=true/\∃ v H,actA C all x.1 x.2 s.1 s.2=some (v,H)/\s'=(upd x.1.dst v s.1,H):=by
 unfold stepA at h
 obtain⟨h1,h2⟩:=qc h
 obtain⟨⟨v,H⟩,h3,h4⟩:=zAv.1 h2
 exact⟨h1,v,H,h3,h4.symm⟩
theorem qhZ{x y:Oper×Md}(hsw:qkj x.1 x.2 y.1 y.2=true){t:Nat->V}{h H1 H2:List O}{va vb:V}(e1:actA C all x.1 x.2 t h=some (va,H1))(e2:actA C all y.1 y.2 t H1=some (vb,H2)) :
  actA C all y.1 y.2 t h=some (vb,H2)/\actA C all x.1 x.2 t H2=some (va,H2):=by
 obtain⟨a,ma⟩:=x
 obtain⟨b,mb⟩:=y
 unfold qkj at hsw
 simp only at hsw e1 e2 ⊢
 split at hsw
 case h_2=>cases hsw
 rename_i ty m k hop
 split at hsw
 ·cases hsw
 rename_i hga
 split at hsw
 case h_2=>cases hsw
 rename_i ty' m' k' hop'
 split at hsw
 ·cases hsw
 rename_i hgb
 split at hsw
 case h_2=>cases hsw
 rename_i ids
 split at hsw
 case h_2=>cases hsw
 rename_i ids'
 unfold actA at e1 e2 ⊢
 rw [hga] at e1 ⊢
 rw [hgb] at e2 ⊢
 simp only [evM,hop,hop',evR,isS,cond_true,evS] at e1 e2 ⊢
 have hH1:h=H1:=by
  split at e1
  ·rw [qeG] at e1
   obtain⟨v,-,e⟩:=zS.1 e1
   cases e;rfl
  ·rw [qfD] at e1
   obtain⟨v,-,e⟩:=zS.1 e1
   cases e;rfl
 subst hH1
 refine⟨e2,?_⟩
 unfold qcb at e2;cases e2
theorem qlk{x y:Oper×Md}(hsw:qil all x.1 x.2 y.1 y.2=true){s s1 s2:S}(h1:stepA C all x s=some s1)(h2:stepA C all y s1=some s2) :
  ∃ s1',stepA C all y s=some s1'/\stepA C all x s1'=some s2:=by
 simp only [qil,zB] at hsw
 obtain⟨⟨⟨hu,hxy⟩,hyx⟩,hm⟩:=hsw
 rw [zz] at hm
 rcases hm with hm | hm
 case inr=>
  obtain⟨o1,va,H1,e1,rfl⟩:=qbQ h1
  obtain⟨o2,vb,H2,e2,rfl⟩:=qbQ h2
  simp only at e2
  rw [<- qdg (qdL hxy)] at e2
  obtain⟨e3,e4⟩:=qhZ hm e1 e2
  refine⟨(upd y.1.dst vb s.1,H2),?_,?_⟩
  ·simp only [stepA,o2,cond_true,e3,Option.map_some]
  ·rw [qdg (qdL hyx (v:=vb))] at e4
   simp only [stepA,o1,cond_true,e4,Option.map_some,qkw hu]
 obtain⟨m1,m2,m3,m4⟩:=qmB hm
 obtain⟨o1,va,H1,e1,rfl⟩:=qbQ h1
 obtain⟨o2,vb,H2,e2,rfl⟩:=qbQ h2
 simp only at e2
 rw [<- qdg (qdL hxy)] at e2
 obtain⟨f1,l1⟩:=qee e1
 obtain⟨f2,l2⟩:=qee e2
 have full_of:∀ {md:Md},md.isPure=false->md.isFull=true\/md.isFull=false:=fun {md} _=>by cases md.isFull <;> simp
 have pf:∀ {md:Md},md.isPure=true->∀ i,¬ md.foot i:=fun {md} hp i=>by cases md <;> simp_all [Md.isPure,Md.foot]
 have pnf:∀ {md:Md},md.isPure=true->md.isFull=false:=fun {md} hp=>by cases md <;> simp_all [Md.isPure,Md.isFull]
 have nfull:∀ {md md':Md},(md.isFull=true->md'.isPure=true)->md'.isPure=false->md.isFull=false:=fun {md md'} hh hp=>by
  cases hf:md.isFull with
  | false=>rfl
  | true=>rw [hh hf] at hp;cases hp
 have ag1:Agree y.2 H1 s.2:=⟨fun hp=>l1 (nfull m3 hp),fun i hs=>f1 i fun hf=>m1 i hf hs⟩
 obtain⟨H1',e3,g3⟩:=qlj ag1 e2
 obtain⟨f3,l3⟩:=qee e3
 have ag2:Agree x.2 s.2 H1':=⟨fun hp=>(l3 (nfull m4 hp)).symm,fun i hs=>(f3 i fun hf=>m2 i hf hs).symm⟩
 obtain⟨H2',e4,g4⟩:=qlj ag2 e1
 obtain⟨f4,l4⟩:=qee e4
 have hH:H2=H2':=by
  apply qdZ
  ·cases hx:x.2.isFull with
   | true=>
    have hp:=m3 hx
    have h12:H2.length=H1.length:=l2 (pnf hp)
    have hs1:s.2=H1':=(qdZ (l3 (pnf hp)) fun i=>f3 i (pf hp i)).symm
    rw [<- hs1,e1] at e4
    cases e4
    exact h12
   | false=>
    cases hy:y.2.isFull with
    | true=>
     have hp:=m4 hy
     have hs1:H1=s.2:=qdZ (l1 hx) fun i=>f1 i (pf hp i)
     rw [hs1,e3] at e2
     cases e2
     exact (l4 hx).symm
    | false=>rw [l2 hy,l1 hx,l4 hx,l3 hy]
  ·intro i
   by_cases hx:x.2.foot i
   ·rw [f2 i fun hf=>m1 i hx (qfQ hf),g4 i hx]
   ·by_cases hy:y.2.foot i
    ·rw [g3 i hy,f4 i hx]
    ·rw [f2 i hy,f1 i hx,f4 i hx,f3 i hy]
 subst hH
 refine⟨(upd y.1.dst vb s.1,H1'),?_,?_⟩
 ·simp only [stepA,o2,cond_true,e3,Option.map_some]
 ·rw [qdg (qdL hyx (v:=vb))] at e4
  simp only [stepA,o1,cond_true,e4,Option.map_some,qkw hu]
theorem qfP:(pre:List (Oper×Md)) -> {x:Oper×Md} -> {post:List (Oper×Md)}->(∀ p∈pre,qil all p.1 p.2 x.1 x.2=true) -> {s s':S} ->
  runA C all (pre++x :: post) s=some s'->∃ s1,stepA C all x s=some s1/\runA C all (pre++post) s1=some s'
 | [],x,post,hp,s,s',h=>by
  obtain⟨s1,h1,h2⟩:=zS.1 h
  exact⟨s1,h1,h2⟩
 | p :: pre,x,post,hp,s,s',h=>by
  obtain⟨s1,h1,h2⟩:=zS.1 h
  obtain⟨s2,h3,h4⟩:=qfP pre (fun q hq=>hp q (by simp [hq])) h2
  obtain⟨s1',h5,h6⟩:=qlk (hp p (by simp)) h1 h3
  refine⟨s1',h5,?_⟩
  simp only [List.cons_append,runA,h6,Option.bind_some]
  exact h4
end
end Go.Abs
