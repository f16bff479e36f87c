import Derived.Test.YtcjecibocjbdmaaAbsOpsS
namespace Go.Abs
section
variable {ρ : Type} {C : Ctx} {h : List O} {t t' : Nat -> V}
theorem qg{α β:Type}(b:Bool)(x y:Option α)(K:α->Option β):(bif b then x else y).bind K=bif b then x.bind K else y.bind K:=by cases b <;> rfl
theorem qmc(op:BinOp)(k:IntKind)(x y:Int)(K:V->Option ρ):qhu op k x y K=(qhu op k x y some).bind K:=by
 cases op <;> simp only [qhu,qg,Option.bind_some,Option.bind_none]
theorem qkz(op:BinOp)(x y:Bool)(K:V->Option ρ):qin op x y K=(qin op x y some).bind K:=by
 cases op <;> rfl
theorem qmb(op:BinOp)(ty:TypeId)(x y:V)(K:V->Option ρ):qcq C op ty x y K=(qcq C op ty x y some).bind K:=by
 cases x <;> cases y <;> simp only [qcq,qg,Option.bind_none]
 ·rw [qmc];split <;> simp [Option.bind_none]
 ·rw [qkz]
 ·unfold nilOp
  split
  ·rfl
  ·cases op <;> rfl
 ·unfold qlp
  split
  ·rfl
  ·rw [qg]
   congr 1
   split
   ·rfl
   ·split
    ·rfl
    ·split
     ·rfl
     ·split <;> rfl
theorem qmi(op:UnOp)(x:V)(K:V->Option ρ):unOpK op x K=(unOpK op x some).bind K:=by
 cases x <;> cases op <;> rfl
theorem qmQ(ty:TypeId)(a:V)(K:V->Option ρ):loadK C h ty a K=(loadK C h ty a some).bind K:=by
 unfold loadK
 split
 ·rfl
 ·split
  ·rfl
  ·rw [qg];rfl
theorem qeO(size:Nat)(agg:Bool)(vs:List V)(i:Int)(K:V->Option ρ):(n j:Nat)->qbJ size agg vs i K n j=(qbJ size agg vs i some n j).bind K
 | 0,j=>rfl
 | n+1,j=>by simp only [qbJ,qg,Option.bind_some];rw [qeO _ _ _ _ _ n]
theorem qeo{α β:Type}(x:Option Operand)(d:Int)(K:Int->Option α)(L:α->Option β):(qbo t x d K).bind L=qbo t x d (fun y=>(K y).bind L):=by
 unfold qbo
 split
 ·rfl
 ·split <;> rfl
theorem qlZ(ty:TypeId)(ps:List (Nat×Operand))(K:V->Option ρ):qgs C t ty ps K=(qgs C t ty ps some).bind K:=by
 unfold qgs
 repeat' (first | rfl | split)
theorem qgK(ty:TypeId)(x:V)(f:Nat)(K:V->Option ρ):qbi C h ty x f K=(qbi C h ty x f some).bind K:=by
 unfold qbi
 split
 ·rfl
 ·split
  ·split
   ·rfl
   ·rw [qg]
    cases x <;> simp only [qg,Option.bind_some,Option.bind_none]
    split <;> rfl
  ·rfl
theorem qlQ(ty:TypeId)(x:V)(f:Nat)(K:V->Option ρ):qhg C ty x f K=(qhg C ty x f some).bind K:=by
 unfold qhg
 split
 ·rfl
 ·split
  ·split
   ·rfl
   ·split
    ·rfl
    ·cases x <;> simp only [qg,Option.bind_some,Option.bind_none]
  ·rfl
theorem qfS(ty:TypeId)(x i:V)(K:V->Option ρ):qaK C h ty x i K=(qaK C h ty x i some).bind K:=by
 unfold qaK
 split
 ·rfl
 ·cases i <;> simp only [Option.bind_none]
  cases x <;> simp only [qg,Option.bind_some,Option.bind_none]
  all_goals split <;> simp only [qg,Option.bind_some,Option.bind_none]
theorem qeN(o a size:Nat)(i:Int)(K:V->Option ρ):(n j:Nat)->qbI o a size i K n j=(qbI o a size i some n j).bind K
 | 0,j=>rfl
 | n+1,j=>by simp only [qbI,qg,Option.bind_some];rw [qeN _ _ _ _ _ n]
theorem qgJ(ty:TypeId)(x i:V)(K:V->Option ρ):qbh C h ty x i K=(qbh C h ty x i some).bind K:=by
 unfold qbh
 split
 ·cases i <;> simp only [Option.bind_none]
  cases x <;> simp only [qg,Option.bind_none]
  rw [qeN]
 ·exact qfS ty x i K
theorem qlO(ty:TypeId)(x i:V)(K:V->Option ρ):qhd C ty x i K=(qhd C ty x i some).bind K:=by
 unfold qhd
 split
 ·rfl
 ·split
  ·split
   ·rfl
   ·cases i <;> simp only [Option.bind_none]
    cases x <;> simp only [qg,Option.bind_none]
    rw [qeO]
  ·rfl
theorem qhV(ty:TypeId)(s:ByteArray)(i:V)(K:V->Option ρ):qcS C ty s i K=(qcS C ty s i some).bind K:=rfl
theorem qjS(ty:TypeId)(x:V)(lo hi:Option Operand)(K:V->Option ρ):qek C ty x lo hi K=(qek C ty x lo hi some).bind K:=by
 unfold qek
 split
 ·rfl
 ·split
  ·rfl
  ·split
   ·rfl
   ·split
    ·rw [qg];rfl
    ·rfl
theorem qjR(ty:TypeId)(s:Sh)(y:s.den)(lo hi:Option Operand)(K:V->Option ρ):qdx C t ty s y lo hi K=(qdx C t ty s y lo hi some).bind K:=by
 unfold qdx
 split
 ·rfl
 split
 ·rfl
 split
 ·rfl
 rw [qg]
 congr 1
 split
 ·rfl
 ·simp only [qeo,qg,Option.bind_none,Option.bind_some]
theorem qlD(ty:TypeId)(x:V)(lo hi:Option Operand)(K:V->Option ρ):qfj C h t ty x lo hi K=(qfj C h t ty x lo hi some).bind K:=by
 unfold qfj
 split
 ·split
  ·exact qjR _ _ _ _ _ _
  ·exact qjS _ _ _ _ _
 ·cases x <;> (try simp only [qg,Option.bind_none,qeo,Option.bind_some])
  cases hi with
  | some _=>rfl
  | none=>
   simp only
   split
   ·simp only [qg,Option.bind_none,qeo,Option.bind_some]
   ·rfl
theorem qnU(ty:TypeId)(x:V)(K:V->Option ρ):lenK C h ty x K=(lenK C h ty x some).bind K:=by
 unfold lenK
 repeat' (first | rfl | split)
theorem qfB(m:Bool)(vs:List V)(K:V->Option ρ):qdF m vs K=(qdF m vs some).bind K:=by
 unfold qdF
 repeat' (first | rfl | split)
theorem qlX(f:V)(args:List V)(K:V->Option ρ):qhs C h f args K=(qhs C h f args some).bind K:=by
 unfold qhs
 split
 ·split
  ·rfl
  ·split
   ·rename_i p _ _ _
    simp only [p.spOk]
    cases p.r <;> rfl
   ·rfl
 ·rfl
theorem qjz(s d:TypeId)(x:V)(K:V->Option ρ):qdi C s d x K=(qdi C s d x some).bind K:=by
 unfold qdi
 repeat' (first | rfl | split)
theorem qmz(c a b:V)(K:V->Option ρ):pickK c a b K=(pickK c a b some).bind K:=by
 cases c <;> simp only [pickK,qg,Option.bind_some,Option.bind_none]
theorem qhO(x:V)(K:V->Option ρ):qan h x K=(qan h x some).bind K:=by
 cases x <;> simp only [qan,qg,Option.bind_some,Option.bind_none]
theorem qjm(x:V)(i:Nat)(K:V->Option ρ):qcF x i K=(qcF x i some).bind K:=by
 unfold qcF
 repeat' (first | rfl | split)
theorem qfJ(ty:TypeId)(x i:V)(ok:Bool)(K:V->Option ρ):qet C h ty x i ok K=(qet C h ty x i ok some).bind K:=by
 unfold qet
 split
 ·rfl
 ·split
  ·rfl
  ·rw [qg];rfl
theorem qeK(ty:TypeId)(x i:V)(ok:Bool)(K:V->Option ρ):qeb C h ty x i ok K=(qeb C h ty x i ok some).bind K:=rfl
theorem qmS(x:V)(K:V->Option ρ):lenNK h x K=(lenNK h x some).bind K:=rfl
theorem qlR(x:V)(K:V->Option ρ):qjs h x K=(qjs h x some).bind K:=rfl
theorem qkm(ty:TypeId)(x:V)(K:V->Option ρ):qev C h ty x K=(qev C h ty x some).bind K:=by
 unfold qev
 split
 ·split
  ·rfl
  ·exact qmS _ _
 ·rfl
theorem qnv(c:Call)(K:V->Option ρ):callR C t h c K=(callR C t h c some).bind K:=by
 unfold callR
 split
 ·split
  ·split
   ·split
    ·exact qkm _ _ _
    ·exact qnU _ _ _
   ·rfl
  ·exact qfB _ _ _
  ·exact qfB _ _ _
  ·rfl
 ·split
  ·rfl
  ·exact qlX _ _ _
theorem qbe(op:BinOp)(b:Bool)(K:V->Option ρ):qcg op b K=(qcg op b some).bind K:=by
 unfold qcg
 split <;> rfl
theorem qka(op:BinOp)(ty:TypeId)(x:V)(K:V->Option ρ):qen C op ty x K=(qen C op ty x some).bind K:=by
 unfold qen
 split
 ·rfl
 ·split
  ·split
   ·exact qbe _ _ _
   ·rw [qg,qbe];rfl
   ·exact qbe _ _ _
   ·rfl
  ·rfl
theorem qkh(op:BinOp)(ty:TypeId)(x:V)(K:V->Option ρ):qer C h op ty x K=(qer C h op ty x some).bind K:=by
 unfold qer
 split
 ·rfl
 ·split
  ·split
   ·exact qbe _ _ _
   ·split
    ·rw [qg,qbe];rfl
    ·rfl
   ·split
    ·rw [qg,qbe];rfl
    ·rfl
   ·rfl
  ·rfl
theorem qkp(op:BinOp)(ty:TypeId)(x:V)(K:V->Option ρ):qfT C op ty x K=(qfT C op ty x some).bind K:=rfl
theorem qlJ(ty:TypeId)(x:V)(K:V->Option ρ):qiT C ty x K=(qiT C ty x some).bind K:=rfl
theorem qaX(o:Op)(K:V->Option ρ):evR C o t h K=(evR C o t h some).bind K:=by
 unfold evR
 split
 ·rfl
 ·rfl
 ·exact qmz _ _ _ _
 ·split
  ·exact qkp _ _ _ _
  ·exact qka _ _ _ _
  ·exact qkh _ _ _ _
  ·exact qmb _ _ _ _ _
 ·exact qlJ _ _ _
 ·exact qmi _ _ _
 ·exact qjz _ _ _ _
 ·exact qhO _ _
 ·exact qmQ _ _ _
 ·exact qgK _ _ _ _
 ·exact qlQ _ _ _ _
 ·exact qgJ _ _ _ _
 ·split
  ·exact qhV _ _ _ _
  ·exact qlO _ _ _ _
 ·exact qjm _ _ _
 ·exact qlZ _ _ _
 ·split
  ·simp only [qg,Option.bind_some,Option.bind_none]
  ·rfl
 ·split
  ·exact qlD _ _ _ _ _
  ·rfl
 ·split
  ·exact qeK _ _ _ _ _
  ·exact qfJ _ _ _ _ _
 ·exact qlR _ _
 ·exact qnv _ _
 ·rfl
abbrev trip(v:V)(ss:List (Nat×O))(mk:Option O):Option (V×List (Nat×O)×Option O):=some (v,ss,mk)
theorem qgr(nid:Nat)(ty:TypeId)(n:Nat)(ps:List (Nat×Operand))(K:V->List (Nat×O)->Option O->Option ρ):qat C t h nid ty n ps K=(qat C t h nid ty n ps trip).bind fun p=>K p.1 p.2.1 p.2.2:=by
 unfold qat
 split
 ·rfl
 ·split
  ·rfl
  ·rw [qg]
   split
   ·rfl
   ·split <;> rfl
theorem qfH(nid:Nat)(ty:TypeId)(l c:V)(K:V->List (Nat×O)->Option O->Option ρ):qaI C nid ty l c K=(qaI C nid ty l c trip).bind fun p=>K p.1 p.2.1 p.2.2:=by
 unfold qaI
 split
 ·rfl
 ·split
  ·rfl
  ·cases l <;> simp only [Option.bind_none]
   cases c <;> simp only [qg,Option.bind_some,Option.bind_none]
theorem qgF(nid:Nat)(ty:TypeId)(l c:V)(t:Kt)(K:V->List (Nat×O)->Option O->Option ρ):qbf C nid ty l c t K=(qbf C nid ty l c t trip).bind fun p=>K p.1 p.2.1 p.2.2:=by
 unfold qbf
 split
 ·rfl
 ·cases l <;> simp only [Option.bind_none]
  cases c <;> simp only [qg,Option.bind_some,Option.bind_none]
theorem qgG(nid:Nat)(ty:TypeId)(l c:V)(K:V->List (Nat×O)->Option O->Option ρ):qbg C nid ty l c K=(qbg C nid ty l c trip).bind fun p=>K p.1 p.2.1 p.2.2:=by
 unfold qbg
 split
 ·exact qgF ..
 ·exact qfH ..
theorem qlz(ty:TypeId)(o ver i off:Nat)(v:V)(K:V->List (Nat×O)->Option O->Option ρ):qgR C h ty o ver i off v K=(qgR C h ty o ver i off v trip).bind fun p=>K p.1 p.2.1 p.2.2:=by
 unfold qgR
 split
 ·rfl
 ·split
  ·rw [qg]
   split
   ·rw [qg]
    split <;> rfl
   ·split
    ·rfl
    ·split
     ·rfl
     ·rw [qg];rfl
  ·rfl
theorem qfh(ty:TypeId)(a v:V)(K:V->List (Nat×O)->Option O->Option ρ):qdw C h ty a v K=(qdw C h ty a v trip).bind fun p=>K p.1 p.2.1 p.2.2:=by
 unfold qdw
 split
 ·rfl
 ·rw [qg]
  cases a <;> simp only [Option.bind_none]
  ·split <;> simp only [qg,Option.bind_some,Option.bind_none]
  ·split
   ·rw [qg]
    split <;> rfl
   ·rfl
theorem qlA(ty:TypeId)(a v:V)(K:V->List (Nat×O)->Option O->Option ρ):qgS C h ty a v K=(qgS C h ty a v trip).bind fun p=>K p.1 p.2.1 p.2.2:=by
 unfold qgS
 split
 ·split
  ·exact qlz ..
  ·exact qfh ..
 ·exact qfh ..
theorem qgv(nid:Nat)(ty:TypeId)(x y:V)(K:V->List (Nat×O)->Option O->Option ρ):qdM C h nid ty x y K=(qdM C h nid ty x y trip).bind fun p=>K p.1 p.2.1 p.2.2:=by
 unfold qdM
 split
 ·rfl
 ·split
  ·rfl
  ·split
   ·rfl
   ·rw [qg]
    cases x <;> simp only [Option.bind_none,qg,Option.bind_some]
    split
    ·rw [qg]
     split
     ·rfl
     ·rw [qg];rfl
    ·rfl
theorem qeV(nid:Nat)(ty:TypeId)(x y:V)(K:V->List (Nat×O)->Option O->Option ρ):qcG C h nid ty x y K=(qcG C h nid ty x y trip).bind fun p=>K p.1 p.2.1 p.2.2:=by
 unfold qcG
 split
 ·rfl
 ·split
  ·rfl
  ·rw [qg]
   split
   ·rfl
   ·cases x <;> simp only [Option.bind_none,qg,Option.bind_some]
    split
    ·rw [qg]
     split
     ·rfl
     ·rw [qg];rfl
    ·rfl
theorem qkB(nid:Nat)(ty:TypeId)(x y:V)(K:V->List (Nat×O)->Option O->Option ρ):qeD C h nid ty x y K=(qeD C h nid ty x y trip).bind fun p=>K p.1 p.2.1 p.2.2:=by
 unfold qeD
 split
 ·exact qgv ..
 ·split
  ·exact qgv ..
  ·exact qeV ..
 ·exact qeV ..
theorem qnr(ty:TypeId)(x y:V)(K:V->List (Nat×O)->Option O->Option ρ):copyK C h ty x y K=(copyK C h ty x y trip).bind fun p=>K p.1 p.2.1 p.2.2:=by
 unfold copyK
 split
 ·rfl
 ·split
  ·rfl
  ·split
   ·rfl
   ·cases x <;> simp only [Option.bind_none]
    ·split
     ·rw [qg]
      split <;> rfl
     ·rfl
    ·split
     ·rw [qg]
      split <;> rfl
     ·rfl
theorem qiW(nid:Nat)(ty:TypeId)(rs:Option V)(K:V->List (Nat×O)->Option O->Option ρ):qdb C nid ty rs K=(qdb C nid ty rs trip).bind fun p=>K p.1 p.2.1 p.2.2:=by
 unfold qdb
 split
 ·split
  ·rfl
  ·split <;> rfl
 ·split <;> rfl
theorem qfE(ty:TypeId)(m k x:V)(K:V->List (Nat×O)->Option O->Option ρ):qbq C h ty m k x K=(qbq C h ty m k x trip).bind fun p=>K p.1 p.2.1 p.2.2:=rfl
theorem qjZ(nid:Nat)(ty:TypeId)(x:V)(K:V->List (Nat×O)->Option O->Option ρ):qfw C h nid ty x K=(qfw C h nid ty x trip).bind fun p=>K p.1 p.2.1 p.2.2:=rfl
theorem qfF(ty:TypeId)(m k x:V)(K:V->List (Nat×O)->Option O->Option ρ):qbr C h ty m k x K=(qbr C h ty m k x trip).bind fun p=>K p.1 p.2.1 p.2.2:=rfl
theorem qdn(ty:TypeId)(m k x:V)(K:V->List (Nat×O)->Option O->Option ρ):qaH C h ty m k x K=(qaH C h ty m k x trip).bind fun p=>K p.1 p.2.1 p.2.2:=by
 unfold qaH
 split
 ·exact qfF _ _ _ _ _
 ·rw [qg]
  congr 1
  split
  ·rfl
  ·split <;> rfl
theorem qhS(ty:TypeId)(m k:V)(K:V->List (Nat×O)->Option O->Option ρ):qci C h ty m k K=(qci C h ty m k trip).bind fun p=>K p.1 p.2.1 p.2.2:=rfl
theorem qgk(ty:TypeId)(m s x:V)(K:V->List (Nat×O)->Option O->Option ρ):qbu C h ty m s x K=(qbu C h ty m s x trip).bind fun p=>K p.1 p.2.1 p.2.2:=rfl
theorem qlH(nid:Nat)(ty:TypeId)(x:V)(K:V->List (Nat×O)->Option O->Option ρ):qiN C h nid ty x K=(qiN C h nid ty x trip).bind fun p=>K p.1 p.2.1 p.2.2:=rfl
theorem qkw(ty:TypeId)(m k:V)(K:V->List (Nat×O)->Option O->Option ρ):qeB C h ty m k K=(qeB C h ty m k trip).bind fun p=>K p.1 p.2.1 p.2.2:=by
 unfold qeB
 split
 ·rfl
 ·rw [qg]
  congr 1
  split <;> rfl
theorem qlU(ty:TypeId)(m:V)(K:V->List (Nat×O)->Option O->Option ρ):qho C h ty m K=(qho C h ty m trip).bind fun p=>K p.1 p.2.1 p.2.2:=by
 unfold qho
 split
 ·rfl
 ·rw [qg];rfl
theorem qim(ty:TypeId)(m:V)(K:V->List (Nat×O)->Option O->Option ρ):qcp C h ty m K=(qcp C h ty m trip).bind fun p=>K p.1 p.2.1 p.2.2:=by
 unfold qcp
 repeat' (first | rfl | split | rw [qg];congr 1)
theorem qaW(o:Op)(nid:Nat)(K:V->List (Nat×O)->Option O->Option ρ):evS C o t h nid K=(evS C o t h nid trip).bind fun p=>K p.1 p.2.1 p.2.2:=by
 unfold evS
 split
 ·split <;> rfl
 ·rw [qg];rfl
 ·exact qgr _ _ _ _ _
 ·exact qgG _ _ _ _ _
 ·exact qlA _ _ _ _
 ·exact qiW _ _ _ _
 ·split
  ·exact qfE _ _ _ _ _
  ·exact qdn _ _ _ _ _
 ·exact qdn _ _ _ _ _
 ·exact qhS _ _ _ _
 ·exact qgk _ _ _ _ _
 ·split
  ·exact qjZ _ _ _ _
  ·exact qlH _ _ _ _
 ·rw [qg]
  congr 1
  ·split
   ·exact qkw _ _ _ _
   ·rfl
  rw [qg]
  congr 1
  ·split
   ·split
    ·exact qlU _ _ _
    ·exact qim _ _ _
   ·rfl
  split
  ·rw [qg,qg,qkB,qnr];rfl
  ·rfl
 ·rfl
abbrev two(v:V)(h:List O):Option (V×List O):=some (v,h)
theorem qlY(f o ver:Nat)(q:Nst)(d:q.sh.den)(i:Nat)(args:List V)(K:V->List O->Option ρ):qjF C h f o ver q d i args K=(qjF C h f o ver q d i args two).bind fun p=>K p.1 p.2:=rfl
theorem qlW(f:V)(args:List V)(K:V->List O->Option ρ):qjC C h f args K=(qjC C h f args two).bind fun p=>K p.1 p.2:=by
 unfold qjC
 split
 ·split
  ·rename_i p _
   simp only [p.spOk]
   cases p.r <;> rfl
  ·split
   ·exact qlY _ _ _ _ _ _ _ _
   ·rfl
 ·rfl
theorem qma(o:Op)(K:V->List O->Option ρ)(K':Option ρ)(K2:Option (V×List O))(hk:K'=K2.bind fun p=>K p.1 p.2):qht C o t h K K'=(qht C o t h two K2).bind fun p=>K p.1 p.2:=hk
theorem qoN(o:Op)(K:V->List O->Option ρ):evW C o t h K=(evW C o t h two).bind fun p=>K p.1 p.2:=by
 unfold evW
 rw [qg]
 congr 1
 ·rw [qaW o h.length (fun v ss mk=>K v (qx ss h++mk.toList)),qaW o h.length (fun v ss mk=>two v (qx ss h++mk.toList))]
  cases evS C o t h h.length trip <;> rfl
 ·split
  ·exact qlW _ _ _
  split
  ·rw [qg];rfl
  split
  ·rw [qg];rfl
  ·refine qma _ _ _ _ ?_
   rw [qaX o (fun v=>K v h),qaX o (fun v=>two v h)]
   cases evR C o t h some <;> rfl
theorem qcU(f:V)(args:List V)(K:O->Option ρ):callN C f args K=(callN C f args some).bind K:=by
 unfold callN
 split
 ·rw [qg]
  congr 1
  split
  ·rfl
  ·split
   ·rfl
   ·rename_i p _ _ _ _
    simp only [p.spOk]
    cases p.r with
    | none=>rfl
    | some a=>
     simp only [Option.bind_some]
     split <;> rfl
 ·rfl
theorem qnu(ids:List Nat)(f:V)(args:List V)(K:V->List O->Option ρ):callS C h ids f args K=(callS C h ids f args two).bind fun p=>K p.1 p.2:=by
 unfold callS
 split
 ·rw [qg]
  congr 1
  split
  ·rfl
  ·split
   ·rfl
   ·rename_i p _ _ _ _
    simp only [p.spOk]
    cases p.r with
    | none=>rfl
    | some a=>simp only [Option.bind_some,qg];rfl
 ·rfl
theorem qoP(o:Op)(md:Md)(K:V->List O->Option ρ):evM C o t h md K=(evM C o t h md two).bind fun p=>K p.1 p.2:=by
 cases md with
 | pure=>simp only [evM];rw [qaX o (fun v=>K v h),qaX o (fun v=>two v h)];cases evR C o t [] some <;> rfl
 | rd ids=>simp only [evM];rw [qaX o (fun v=>K v h),qaX o (fun v=>two v h)];cases evR C o t (onlyF (memN ids) 0 h) some <;> rfl
 | wr ids=>
  simp only [evM,qg,Option.bind_none]
  congr 1
  ·refine (qaW o 0 _).trans (Eq.trans ?_ (congrArg (fun z=>Option.bind z fun p:V×List O=>K p.1 p.2) (qaW o 0 _).symm))
   cases evS C o t (onlyF (memN ids) 0 h) 0 trip with
   | none=>rfl
   | some p=>
    obtain⟨v,ss,mk⟩:=p
    cases mk <;> simp only [Option.bind_some,qg,Option.bind_none]
  ·split
   ·exact qnu _ _ _ _
   ·split
    ·split <;> simp only [qg,Option.bind_none] <;> rfl
    ·split <;> simp only [qg,Option.bind_none] <;> rfl
 | new id=>
  simp only [evM,qg,Option.bind_none]
  congr 1
  ·refine (qaW o id _).trans (Eq.trans ?_ (congrArg (fun z=>Option.bind z fun p:V×List O=>K p.1 p.2) (qaW o id _).symm))
   cases evS C o t [] id trip with
   | none=>rfl
   | some p=>
    obtain⟨v,ss,mk⟩:=p
    cases ss <;> cases mk <;> simp only [Option.bind_some,Option.bind_none]
    split <;> simp only [qg,Option.bind_some,Option.bind_none]
  split
  ·refine (qcU _ _ _).trans (Eq.trans ?_ (congrArg (fun z=>Option.bind z fun p:V×List O=>K p.1 p.2) (qcU _ _ _).symm))
   cases callN C _ _ some with
   | none=>rfl
   | some x=>
    simp only [Option.bind_some]
    split <;> simp only [qg,Option.bind_some,Option.bind_none]
  ·rfl
 | full=>exact qoN o K
end
end Go.Abs
namespace Go.Abs
section
variable {ρ : Type} {C : Ctx} {h h' : List O} {t t' : Nat -> V}
def Same(t t':Nat->V)(o:Op):Prop:=∀ i∈qor o,t i=t' i
theorem qoc{x:Operand}(hx:∀ i,x=.tmp i->t i=t' i):ev t x=ev t' x:=by
 cases x with
 | tmp i=>exact hx i rfl
 | _=>rfl
theorem Same.ev{o:Op}(hs:Same t t' o){x:Operand}(hx:x∈o.operands):ev t x=ev t' x:=
 qoc fun i hi=>hs i (by
  subst hi
  exact List.mem_filterMap.2 ⟨.tmp i,by simpa using hx,rfl⟩)
theorem qdH{place:Nat->Option (Nat×Nat)}:(ps:List (Nat×Operand))->(vs:List V)->(∀ p∈ps,ev t p.2=ev t' p.2)->fillV place t ps vs=fillV place t' ps vs
 | [],vs,_=>rfl
 | (i,x) :: r,vs,hp=>by
  have hx:=hp (i,x) (by simp)
  simp only at hx
  simp only [fillV,hx]
  split
  ·rfl
  ·rw [qdH r _ fun p hm=>hp p (by simp [hm])]
theorem qda{xs:List Operand}(hx:∀ x∈xs,ev t x=ev t' x):xs.map (ev t)=xs.map (ev t'):=List.map_congr_left hx
theorem qky{c:Call}(hx:∀ x∈c.operands,ev t x=ev t' x)(K:V->Option ρ):callR C t h c K=callR C t' h c K:=by
 have hargs:∀ x∈c.args,ev t x=ev t' x:=fun x hm=>hx x (by simp [Call.operands,hm])
 have hm:=qda (t:=t) (t':=t') (xs:=c.args.toList) (fun x hm=>hargs x (by simpa using hm))
 unfold callR
 split
 ·split
  ·split
   ·rename_i x ty e _
    rw [hargs x (zAP e)]
   ·rfl
  ·rw [hm]
  ·rw [hm]
  ·rfl
 ·have:callT C.T t (.call c)=callT C.T t' (.call c):=by
   unfold callT
   simp only
   split
   ·rename_i f hf
    rw [hm,hx f (by simp [Call.operands,hf])]
   ·rename_i r nm hf
    rw [hm,hx r (by simp [Call.operands,hf])]
   ·rfl
  rw [this]
theorem qgj{o:Op}(hs:Same t t' o)(K:V->Option ρ):evR C o t h K=evR C o t' h K:=by
 have hev:∀ x∈o.operands,ev t x=ev t' x:=fun x hx=>hs.ev hx
 cases o <;> simp only [Op.operands] at hev <;> simp only [evR]
 case build ty ps=>
  unfold qgs
  have:=fun place vs=>qdH (place:=place) ps.toList vs (fun p hp=>hev p.2 (by simp;exact⟨p.1,by simpa using hp⟩))
  simp only [this]
 case makeFunc fn first caps=>
  rw [qda (xs:=caps.toList) fun x hx=>hev x (by simp;exact .inr (by simpa using hx)),qda (xs:=first.toList) fun x hx=>hev x (by simp;exact .inl (by simpa using hx))]
 case slice ty x lo hi mx=>
  have h1:=hev x (by simp)
  have h2:∀ d (K:Int->Option ρ),qbo t lo d K=qbo t' lo d K:=fun d K=>by
   cases lo with
   | none=>rfl
   | some y=>simp only [qbo,hev y (by simp)]
  have h3:∀ d (K:Int->Option ρ),qbo t hi d K=qbo t' hi d K:=fun d K=>by
   cases hi with
   | none=>rfl
   | some y=>simp only [qbo,hev y (by simp)]
  cases mx <;> simp only [qfj,qdx,h1,h2,h3]
 case call c=>exact qky (by simpa using hev) K
 all_goals (first | rfl | (simp_all;done))
theorem qgh{o:Op}(hs:Same t t' o)(nid:Nat)(K:V->List (Nat×O)->Option O->Option ρ):evS C o t h nid K=evS C o t' h nid K:=by
 have hev:∀ x∈o.operands,ev t x=ev t' x:=fun x hx=>hs.ev hx
 cases o <;> simp only [Op.operands] at hev <;> simp only [evS]
 case buildSlice ty n ps=>
  unfold qat
  have:=fun place vs=>qdH (place:=place) ps.toList vs (fun p hp=>hev p.2 (by simp;exact⟨p.1,by simpa using hp⟩))
  simp only [this]
 case call c=>
  have hargs:∀ x∈c.args,ev t x=ev t' x:=fun x hm=>hev x (by simp [Call.operands,hm])
  congr 1
  ·split
   ·rename_i x y ty e1 e2 _
    rw [hargs x (zAP e1),hargs y (zAP e2)]
   ·rfl
  congr 1
  ·split
   ·rename_i x ty e1 _
    rw [hargs x (zAP e1)]
   ·rfl
  split
  ·rename_i x y ty ty' e1 e2 _ _
   rw [hargs x (zAP e1),hargs y (zAP e2)]
  ·rfl
 case makeMap ty rs=>
  cases rs with
  | none=>rfl
  | some x=>simp only [Option.map_some,hev x (by simp)]
 all_goals (first | rfl | (simp_all;done))
theorem qdK{T:List (Nat×TE)}{o:Op}(hs:Same t t' o):callT T t o=callT T t' o:=by
 unfold callT
 split
 ·rename_i c
  have hc:∀ x∈c.operands,ev t x=ev t' x:=fun x hx=>hs.ev (by simpa [Op.operands] using hx)
  have hm:=qda (t:=t) (t':=t') (xs:=c.args.toList) (fun x hm=>hc x (by simp [Call.operands];exact .inr (by simpa using hm)))
  split
  ·rename_i f hf
   rw [hm,hc f (by simp [Call.operands,hf])]
  ·rename_i r nm hf
   rw [hm,hc r (by simp [Call.operands,hf])]
  ·rfl
 ·rfl
theorem qjI{o:Op}(hs:Same t t' o)(K:V->List O->Option ρ)(K':Option ρ):qht C o t h K K'=qht C o t' h K K':=rfl
theorem qfg{o:Op}(hs:Same t t' o)(nid:Nat):takeO C o t h nid=takeO C o t' h nid:=by
 cases o with
 | lookup ty x i ok=>
  have e1:=hs.ev (x:=x) (by simp [Op.operands])
  have e2:=hs.ev (x:=i) (by simp [Op.operands])
  cases ok <;> simp only [takeO,e1,e2]
 | load ty x=>
  have e1:=hs.ev (x:=x) (by simp [Op.operands])
  simp only [takeO,e1]
 | _=>rfl
theorem qgn{o:Op}(hs:Same t t' o):dropO C o t h=dropO C o t' h:=by
 cases o with
 | slice ty x lo hi mx=>
  have e1:=hs.ev (x:=x) (by simp [Op.operands])
  cases lo with
  | none=>rfl
  | some lo=>
   have e2:=hs.ev (x:=lo) (by simp [Op.operands])
   cases hi <;> cases mx <;> first | rfl | simp only [dropO,e1,e2]
 | _=>rfl
theorem qnj{o:Op}(hs:Same t t' o)(md:Md)(K:V->List O->Option ρ):evM C o t h md K=evM C o t' h md K:=by
 cases md <;> simp only [evM]
 ·exact qgj hs _
 ·exact qgj hs _
 ·rw [qgh hs,qdK hs,qfg hs,qgn hs]
 ·rw [qgh hs,qdK hs]
 ·unfold evW
  rw [qgh hs,qgj hs,qdK hs,qjI hs,qfg hs,qgn hs]
def Md.sees:Md->Nat->Prop
 | .pure,_=>False
 | .rd ids,i=>memN ids i=true
 | .wr ids,i=>memN ids i=true
 | .new id,i=>i=id
 | .full,_=>True
def Md.foot:Md->Nat->Prop
 | .pure,_=>False
 | .rd _,_=>False
 | .wr ids,i=>memN ids i=true
 | .new id,i=>i=id
 | .full,_=>True
def Md.isFull:Md->Bool
 | .full=>true
 | _=>false
def Md.isPure:Md->Bool
 | .pure=>true
 | _=>false
structure Agree (md:Md) (h h':List O):Prop where
 len:md.isPure=false->h.length=h'.length
 get:∀ i,md.sees i->getO h i=getO h' i
theorem qed{h h':List O}(hl:h.length=h'.length)(hg:∀ i,getO h i=getO h' i):h=h':=by
 apply List.ext_getElem hl
 intro i h1 h2
 have:=hg i
 simpa [getO,List.getD,h1,h2] using this
theorem qcO(p:Nat->Bool):(i:Nat)->(h:List O)->(onlyF p i h).length=h.length
 | _,[]=>rfl
 | i,x :: h=>by simp [onlyF,qcO p (i+1) h]
theorem qdC{ids:List Nat}(hl:h.length=h'.length)(hg:∀ i,memN ids i=true->getO h i=getO h' i):onlyF (memN ids) 0 h=onlyF (memN ids) 0 h':=by
 apply qed
 ·rw [qcO,qcO,hl]
 ·intro i
  rw [qcP,qcP,Nat.zero_add]
  split
  ·exact hg i ‹_›
  ·rfl
theorem qbV:(ss:List (Nat×O))->(h:List O)->(i:Nat)->(∀ p∈ss,p.1≠i)->getO (qx ss h) i=getO h i
 | [],h,i,_=>rfl
 | (j,x) :: r,h,i,hp=>by
  simp only [qx]
  rw [qbV r _ i fun p hm=>hp p (by simp [hm])]
  have:=hp (j,x) (by simp)
  simp only at this
  simp [getO,List.getD,zAd this]
theorem qaC{h h':List O}(hl:h.length=h'.length){i j:Nat}{x:O}(hg:getO h i=getO h' i):getO (h.set j x) i=getO (h'.set j x) i:=by
 simp only [getO,List.getD,zAL] at hg ⊢
 rw [hl]
 split
 ·rfl
 ·exact hg
theorem qaV:(ss:List (Nat×O)) -> {h h':List O}->h.length=h'.length->(i:Nat)->getO h i=getO h' i->getO (qx ss h) i=getO (qx ss h') i
 | [],h,h',_,i,hg=>hg
 | (j,x) :: r,h,h',hl,i,hg=>qaV r (by simp [hl]) i (qaC hl hg)
theorem qhr{h:List O}{ids:List Nat}{f:V}{args:List V}{v:V}{H:List O}(he:callS C h ids f args two=some (v,H)) :
  ∃ g caps p u a,f=.clo g caps/\qK ids (argsF g args caps)=true/\clsd ids (onlyF (memN ids) 0 h)=true/\C.G (tgtF g) (argsF g args caps) (onlyF (memN ids) 0 h)=some p/\p.h=some u/\p.r=some a /\
   (u a (onlyF (memN ids) 0 h)).length=h.length/\qdD (memN ids) 0 (u a (onlyF (memN ids) 0 h))=true/\v=p.v a/\H=mixF (memN ids) 0 (u a (onlyF (memN ids) 0 h)) h:=by
 unfold callS at he
 split at he
 ·rename_i g caps
  obtain⟨hc,he⟩:=qc he
  rw [zB] at hc
  split at he
  ·cases he
  ·rename_i p hp
   split at he
   ·cases he
   ·rename_i u hu
    cases hr:p.r with
    | none=>rw [hr] at he;cases he
    | some a=>
     rw [hr] at he
     simp only [Option.bind_some,p.spOk] at he
     obtain⟨hl,he⟩:=qc he
     rw [zB] at hl
     cases he
     exact⟨g,caps,p,u,a,rfl,hc.1,hc.2,hp,hu,hr,zA hl.1,hl.2,rfl,rfl⟩
 ·cases he
theorem qlo{o:Op}{md:Md}{v:V}{H:List O}(he:evM C o t h md two=some (v,H)):(∀ i,¬ md.foot i->getO H i=getO h i)/\(md.isFull=false->H.length=h.length):=by
 cases md with
 | pure=>
  simp only [evM] at he
  rw [qaX o] at he
  obtain⟨u,_,he⟩:=zS.1 he
  cases he
  exact⟨fun _ _=>rfl,fun _=>rfl⟩
 | rd ids=>
  simp only [evM] at he
  rw [qaX o] at he
  obtain⟨u,_,he⟩:=zS.1 he
  cases he
  exact⟨fun _ _=>rfl,fun _=>rfl⟩
 | wr ids=>
  simp only [evM] at he
  cases hS:isS o with
  | false=>
   rw [hS,cond_false] at he
   split at he
   ·obtain⟨g,caps,p,u,a,-,-,-,-,-,-,hl,-,-,rfl⟩:=qhr he
    exact⟨fun i hn=>by rw [qdX _ _ _ _ hl,Nat.zero_add,zP (show ¬ memN ids i=true from hn)],fun _=>qfA _ _ _ _ hl⟩
   ·split at he
    ·rename_i p hp
     split at he
     ·rename_i hg
      obtain⟨hi,he⟩:=qc he
      simp only [zB] at hi
      obtain⟨_,he⟩:=qc he
      cases he
      refine⟨fun i hn=>?_,fun _=>by rw [zAZ,qI]⟩
      have hne:ids.headD 0≠i:=fun e=>hn (by rw [<- e];exact hi.1)
      have e1:getO ((qx p.2.1 h).set (ids.headD 0) p.2.2) i=getO (qx p.2.1 h) i:=by unfold getO;rw [zF,zF,zAd hne]
      rw [e1]
      refine qbV p.2.1 h i fun q hq e=>hn ?_
      have:=zd.1 hi.2.2 q hq
      rw [e] at this
      exact this
     ·cases he
    ·split at he
     ·rename_i p hp
      obtain⟨hi,he⟩:=qc he
      cases he
      refine⟨fun i hn=>?_,fun _=>by rw [zAZ]⟩
      rw [zB] at hi
      have hne:p.2.2.1≠i:=fun e=>hn (by rw [<- e];exact hi.1)
      unfold getO;rw [zF,zF,zAd hne]
     ·cases he
  | true=>
  rw [hS,cond_true] at he
  rw [qaW o] at he
  obtain⟨⟨u,ss,mk⟩,_,he⟩:=zS.1 he
  cases mk with
  | some x=>cases he
  | none=>
   simp only at he
   obtain⟨hi,he⟩:=qc he
   cases he
   refine⟨fun i hn=>qbV ss h i fun p hp e=>hn ?_,fun _=>qI _ _⟩
   have:=zd.1 hi p hp
   rw [e] at this
   exact this
 | new id=>
  simp only [evM] at he
  cases hS:isS o with
  | true=>
   rw [hS,cond_true,qaW o] at he
   obtain⟨⟨u,ss,mk⟩,_,he⟩:=zS.1 he
   cases ss with
   | cons p ss=>cases he
   | nil=>
    cases mk with
    | none=>cases he
    | some x=>
     simp only at he
     cases hg:getO h id with
     | none=>
      rw [hg] at he
      simp only at he
      obtain⟨_,he⟩:=qc he
      cases he
      refine⟨fun i hn=>?_,fun _=>by simp⟩
      have hn:id≠i:=fun e=>hn e.symm
      simp [getO,List.getD,zAd hn]
     | cells vs=>rw [hg] at he;cases he
     | nst _ _ _=>rw [hg] at he;cases he
     | kds _ _ _ _ _=>rw [hg] at he;cases he
     | gone=>rw [hg] at he;cases he
     | oth fz q d=>rw [hg] at he;cases he
     | row fz ver e s xs=>rw [hg] at he;cases he
  | false=>
   rw [hS,cond_false] at he
   split at he
   ·rw [qcU] at he
    obtain⟨x,_,he⟩:=zS.1 he
    cases hg:getO h id with
    | none=>
     rw [hg] at he
     simp only at he
     obtain⟨_,he⟩:=qc he
     cases he
     refine⟨fun i hn=>?_,fun _=>by simp⟩
     have hn:id≠i:=fun e=>hn e.symm
     simp [getO,List.getD,zAd hn]
    | cells vs=>rw [hg] at he;cases he
    | nst _ _ _=>rw [hg] at he;cases he
    | kds _ _ _ _ _=>rw [hg] at he;cases he
    | gone=>rw [hg] at he;cases he
    | oth fz q d=>rw [hg] at he;cases he
    | row fz ver e s xs=>rw [hg] at he;cases he
   ·cases he
 | full=>exact⟨fun i hn=>absurd trivial hn,fun hf=>by cases hf⟩
theorem qni{o:Op}{md:Md}{v:V}{H:List O}(ha:Agree md h h')(he:evM C o t h md two=some (v,H)) :
  ∃ H',evM C o t h' md two=some (v,H')/\∀ i,md.foot i->getO H i=getO H' i:=by
 cases md with
 | pure=>
  simp only [evM] at he ⊢
  rw [qaX o] at he
  obtain⟨u,h1,he⟩:=zS.1 he
  cases he
  refine⟨h',?_,fun i hf=>hf.elim⟩
  rw [qaX o,h1];rfl
 | rd ids=>
  simp only [evM] at he ⊢
  rw [qaX o] at he
  obtain⟨u,h1,he⟩:=zS.1 he
  cases he
  refine⟨h',?_,fun i hf=>hf.elim⟩
  rw [qaX o,<- qdC (ha.len rfl) ha.get,h1];rfl
 | wr ids=>
  simp only [evM] at he ⊢
  have hof:=qdC (ids:=ids) (ha.len rfl) ha.get
  cases hS:isS o with
  | false=>
   rw [hS,cond_false] at he
   rw [cond_false]
   split at he
   ·rename_i f args hc
    obtain⟨g,caps,p,u,a,e1,e2,e3,e4,e5,e6,hl,e7,rfl,rfl⟩:=qhr he
    have hl':(u a (onlyF (memN ids) 0 h')).length=h'.length:=by rw [<- hof,hl];exact ha.len rfl
    refine⟨mixF (memN ids) 0 (u a (onlyF (memN ids) 0 h')) h',?_,fun i hf=>?_⟩
    ·simp only [callS,e1,e2,<- hof,e3,Bool.and_self,cond_true,e4,e5,e6,Option.bind_some,p.spOk,e7]
     rw [show Nat.beq (u a (onlyF (memN ids) 0 h)).length h'.length=true by rw [hof,hl'];exact Nat.beq_refl _];rfl
    ·rw [qdX _ _ _ _ hl,qdX _ _ _ _ hl',Nat.zero_add,zG (show memN ids i=true from hf),zG (show memN ids i=true from hf),hof]
   ·rw [<- hof]
    split at he
    ·rename_i p hp
     split at he
     ·rename_i hg
      obtain⟨hi,he⟩:=qc he
      have hi':=hi
      simp only [zB] at hi'
      obtain⟨hgo,he⟩:=qc he
      cases he
      have hg':getO h' (ids.headD 0)=.none:=by rw [<- ha.get _ hi'.1,hg]
      refine⟨(qx p.2.1 h').set (ids.headD 0) p.2.2,?_,fun i hf=>qaC (by rw [qI,qI];exact ha.len rfl) (qaV p.2.1 (ha.len rfl) i (ha.get i hf))⟩
      simp only [hg',<- ha.len rfl,hi,hgo,cond_true]
     ·cases he
    ·split at he
     ·rename_i p hp
      obtain⟨hi,he⟩:=qc he
      cases he
      exact⟨h'.set p.2.2.1 p.2.2.2,by simp only [hi,cond_true],fun i hf=>qaC (ha.len rfl) (ha.get i hf)⟩
     ·cases he
  | true=>
  rw [hS,cond_true] at he
  rw [qaW o] at he
  obtain⟨⟨u,ss,mk⟩,h1,he⟩:=zS.1 he
  cases mk with
  | some x=>cases he
  | none=>
   simp only at he
   obtain⟨hi,he⟩:=qc he
   cases he
   refine⟨qx ss h',?_,fun i hf=>qaV ss (ha.len rfl) i (ha.get i hf)⟩
   rw [cond_true,qaW o,<- qdC (ha.len rfl) ha.get,h1]
   simp only [Option.bind_some,hi,cond_true]
 | new id=>
  simp only [evM] at he ⊢
  cases hS:isS o with
  | true=>
   rw [hS,cond_true,qaW o] at he
   obtain⟨⟨u,ss,mk⟩,h1,he⟩:=zS.1 he
   cases ss with
   | cons p ss=>cases he
   | nil=>
    cases mk with
    | none=>cases he
    | some x=>
     simp only at he
     cases hg:getO h id with
     | none=>
      rw [hg] at he
      simp only at he
      obtain⟨hlt,he⟩:=qc he
      cases he
      have hg':getO h' id=.none:=by rw [<- ha.get id rfl,hg]
      refine⟨h'.set id x,?_,fun i hf=>?_⟩
      ·rw [cond_true,qaW o,h1]
       simp only [Option.bind_some,hg',<- ha.len rfl,hlt,cond_true]
      ·exact qaC (ha.len rfl) (ha.get i hf)
     | cells vs=>rw [hg] at he;cases he
     | nst _ _ _=>rw [hg] at he;cases he
     | kds _ _ _ _ _=>rw [hg] at he;cases he
     | gone=>rw [hg] at he;cases he
     | oth fz q d=>rw [hg] at he;cases he
     | row fz ver e s xs=>rw [hg] at he;cases he
  | false=>
   rw [hS,cond_false] at he
   rw [cond_false]
   split at he
   ·rename_i f args hc
    rw [qcU] at he
    obtain⟨x,h1,he⟩:=zS.1 he
    cases hg:getO h id with
    | none=>
     rw [hg] at he
     simp only at he
     obtain⟨hlt,he⟩:=qc he
     cases he
     have hg':getO h' id=.none:=by rw [<- ha.get id rfl,hg]
     refine⟨h'.set id x,?_,fun i hf=>?_⟩
     ·rw [qcU,h1]
      simp only [Option.bind_some,hg',<- ha.len rfl,hlt,cond_true]
     ·exact qaC (ha.len rfl) (ha.get i hf)
    | cells vs=>rw [hg] at he;cases he
    | nst _ _ _=>rw [hg] at he;cases he
    | kds _ _ _ _ _=>rw [hg] at he;cases he
    | gone=>rw [hg] at he;cases he
    | oth fz q d=>rw [hg] at he;cases he
    | row fz ver e s xs=>rw [hg] at he;cases he
   ·cases he
 | full=>
  have:h=h':=qed (ha.len rfl) fun i=>ha.get i trivial
  subst this
  exact⟨H,he,fun _ _=>rfl⟩
theorem qdZ{a b:List Nat}(hd:disj a b=true){i:Nat}(ha:memN a i=true)(hb:memN b i=true):False:=by
 unfold memN at ha
 obtain⟨x,hx,he⟩:=List.any_eq_true.1 ha
 have he:=zA he
 subst he
 have:=zd.1 hd i hx
 simp [hb] at this
theorem qmP{a b:Md}(hm:mdOk a b=true):(∀ i,a.foot i->¬ b.sees i)/\(∀ i,b.foot i->¬ a.sees i)/\(a.isFull=true->b.isPure=true)/\(b.isFull=true->a.isPure=true):=by
 have hne:∀ {ids:List Nat} {j:Nat},(!memN ids j)=true->memN ids j=true->False:=fun {ids j} h1 h2=>by simp [h2] at h1
 cases a <;> cases b <;> simp only [mdOk,zB,zl] at hm <;>
  refine⟨fun i hf hs=>?_,fun i hf hs=>?_,fun hh=>?_,fun hh=>?_⟩ <;>
  simp only [Md.foot,Md.sees,Md.isFull,Md.isPure,zl] at * <;>
  first
   | (subst hf;subst hs;simp at hm;done)
   | (subst hf;exact hne hm hs)
   | (subst hs;exact hne hm hf)
   | exact qdZ hm hf hs
   | exact qdZ hm hs hf
   | exact qdZ hm.1 hf hs
   | exact qdZ hm.1 hs hf
end
end Go.Abs
namespace Go.Abs
section
variable {ρ : Type} {C : Ctx} {all : List Oper}
abbrev S:=(Nat->V)×List O
def upd(dst:Option Tmp)(v:V)(t:Nat->V):Nat->V:=
 match dst with
 | none=>t
 | some d=>fun i=>bif Nat.beq d i then v else t i
def okDst(n:Nat):Option Tmp->Bool
 | none=>true
 | some d=>Nat.blt d n
def actA(C:Ctx)(all:List Oper)(o:Oper)(md:Md)(t:Nat->V)(h:List O):Option (V×List O):=
 match o.guard with
 | none=>evM C o.op t h md two
 | some (j,want)=>
  match dstOf all j with
  | none=>none
  | some d=>
   match t d with
   | .bool b=>if b=want then evM C o.op t h md two else some (.undef,h)
   | .undef=>some (.undef,h)
   | _=>none
def stepA(C:Ctx)(all:List Oper)(x:Oper×Md)(s:S):Option S:=
 bif okDst C.n x.1.dst then (actA C all x.1 x.2 s.1 s.2).map fun p=>(upd x.1.dst p.1 s.1,p.2) else none
def runA(C:Ctx)(all:List Oper):List (Oper×Md)->S->Option S
 | [],s=>some s
 | x :: r,s=>(stepA C all x s).bind (runA C all r)
def zipM:List Oper->List Md->List (Oper×Md)
 | [],_=>[]
 | o :: r,mds=>(o,mds.headD .full) :: zipM r mds.tail
theorem qiY(d:Nat)(v:V)(t:Slots):look ((d,v) :: t)=upd (some d) v (look t):=rfl
theorem upd_same{t:Nat->V}{d:Nat}{v:V}(h:t d=v):upd (some d) v t=t:=by
 funext i
 simp only [upd]
 cases hb:Nat.beq d i with
 | false=>rfl
 | true=>have:=zA hb;subst this;exact h.symm
theorem qhI{n:Nat}{dst:Option Tmp}{v:V}{t:Slots}{K:Slots->Option ρ}{res:ρ}(h:putD n dst v t K=some res):okDst n dst=true/\∃ t',look t'=upd dst v (look t)/\K t'=some res:=by
 cases dst with
 | none=>exact⟨rfl,t,rfl,h⟩
 | some d=>
  simp only [putD] at h
  obtain⟨h1,h2⟩:=qc h
  exact⟨h1,_,qiY d v t,h2⟩
theorem qcY:(r:List Oper)->(mds:List Md)->(t:Slots)->(h:List O)->(K:Slots->List O->Option ρ) -> {res:ρ}->opsK C all r mds t h K=some res ->
  ∃ t' h',runA C all (zipM r mds) (look t,h)=some (look t',h')/\K t' h'=some res
 | [],mds,t,h,K,res,hk=>⟨t,h,rfl,hk⟩
 | o :: r,mds,t,h,K,res,hk=>by
  have fin:∀ {v:V} {t1:Slots} {H:List O},look t1=look t->actA C all o (mds.headD .full) (look t) h=some (v,H) ->
    putD C.n o.dst v t1 (fun t=>opsK C all r mds.tail t H K)=some res->∃ t' h',runA C all (zipM (o :: r) mds) (look t,h)=some (look t',h')/\K t' h'=some res:=by
   intro v t1 H e1 e2 e3
   obtain⟨h1,t2,h2,h3⟩:=qhI e3
   obtain⟨t3,h4,h5,h6⟩:=qcY r mds.tail t2 H K h3
   refine⟨t3,h4,?_,h6⟩
   simp only [zipM,runA,stepA,h1,cond_true,e2,Option.map_some,Option.bind_some]
   rw [<- e1,<- h2];exact h5
  have evd:∀ {t1:Slots},look t1=look t->evM C o.op (look t1) h (mds.headD .full) (fun v h=>putD C.n o.dst v t1 fun t=>opsK C all r mds.tail t h K)=some res ->
    ∃ v H,evM C o.op (look t) h (mds.headD .full) two=some (v,H)/\putD C.n o.dst v t1 (fun t=>opsK C all r mds.tail t H K)=some res:=by
   intro t1 e1 e2
   rw [qoP] at e2
   obtain⟨⟨v,H⟩,h1,h2⟩:=zS.1 e2
   rw [e1] at h1
   exact⟨v,H,h1,h2⟩
  simp only [opsK] at hk
  cases hg:o.guard with
  | none=>
   rw [hg] at hk
   simp only at hk
   obtain⟨v,H,h1,h2⟩:=evd rfl hk
   exact fin rfl (by simp only [actA,hg];exact h1) h2
  | some gw=>
   obtain⟨j,want⟩:=gw
   rw [hg] at hk
   simp only at hk
   cases hd:dstOf all j with
   | none=>rw [hd] at hk;cases hk
   | some d=>
    rw [hd] at hk
    simp only at hk
    cases ht:look t d with
    | bool b=>
     rw [ht] at hk
     simp only at hk
     have hup:look ((d,.bool b) :: t)=look t:=by rw [qiY,upd_same ht]
     cases b with
     | true=>
      simp only [cond_true] at hk
      cases want with
      | true=>
       simp only [cond_true] at hk
       obtain⟨v,H,h1,h2⟩:=evd hup hk
       exact fin hup (by simp only [actA,hg,hd,ht,if_true];exact h1) h2
      | false=>
       simp only [cond_false] at hk
       exact fin hup (by simp [actA,hg,hd,ht]) hk
     | false=>
      simp only [cond_false] at hk
      cases want with
      | true=>
       simp only [cond_true] at hk
       exact fin hup (by simp [actA,hg,hd,ht]) hk
      | false=>
       simp only [cond_false] at hk
       obtain⟨v,H,h1,h2⟩:=evd hup hk
       exact fin hup (by simp only [actA,hg,hd,ht,if_true];exact h1) h2
    | undef=>
     rw [ht] at hk
     exact fin rfl (by simp [actA,hg,hd,ht]) hk
    | _=>rw [ht] at hk;cases hk
theorem qdj{o:Oper}{md:Md}{t t':Nat->V}{h:List O}(hs:∀ i∈reads all o,t i=t' i):actA C all o md t h=actA C all o md t' h:=by
 have h1:Same t t' o.op:=fun i hi=>hs i (zQ _ hi)
 have h2:=qnj (C:=C) (h:=h) h1 md two
 unfold actA
 cases hg:o.guard with
 | none=>exact h2
 | some gw=>
  obtain⟨j,want⟩:=gw
  simp only
  cases hd:dstOf all j with
  | none=>rfl
  | some d=>
   have:=hs d (zf _ (by simp [qli,hg,hd]))
   simp only [this,h2]
theorem qfY{md:Md}{i:Nat}(h:md.foot i):md.sees i:=by
 cases md <;> simp_all [Md.foot,Md.sees]
theorem qei{o:Oper}{md:Md}{t:Nat->V}{h:List O}{v:V}{H:List O}(he:actA C all o md t h=some (v,H)):(∀ i,¬ md.foot i->getO H i=getO h i)/\(md.isFull=false->H.length=h.length):=by
 unfold actA at he
 split at he
 ·exact qlo he
 ·split at he
  ·cases he
  ·split at he
   ·split at he
    ·exact qlo he
    ·cases he;exact⟨fun _ _=>rfl,fun _=>rfl⟩
   ·cases he;exact⟨fun _ _=>rfl,fun _=>rfl⟩
   ·cases he
theorem qlx{o:Oper}{md:Md}{t:Nat->V}{h h':List O}{v:V}{H:List O}(ha:Agree md h h')(he:actA C all o md t h=some (v,H)) :
  ∃ H',actA C all o md t h'=some (v,H')/\∀ i,md.foot i->getO H i=getO H' i:=by
 unfold actA at he ⊢
 split at he
 ·exact qni ha he
 ·split at he
  ·cases he
  ·split at he
   ·split at he
    ·rename_i hb;subst hb
     simp only [if_true]
     exact qni ha he
    ·rename_i hb
     cases he;exact⟨h',by simp [hb],fun i hf=>ha.get i (qfY hf)⟩
   ·cases he;exact⟨h',rfl,fun i hf=>ha.get i (qfY hf)⟩
   ·cases he
theorem qfb{l:List Nat}{i:Nat}:memN l i=true↔i∈l:=by
 unfold memN
 rw [List.any_eq_true]
 exact⟨fun ⟨x,h1,h2⟩=>by rw [zA h2];exact h1,fun h=>⟨i,h,Nat.beq_refl i⟩⟩
theorem qdP{dst:Option Tmp}{l:List Nat}(h:notIn dst l=true){v:V}{t:Nat->V}:∀ i∈l,t i=upd dst v t i:=by
 intro i hi
 cases dst with
 | none=>rfl
 | some d=>
  simp only [upd]
  cases hb:Nat.beq d i with
  | false=>rfl
  | true=>
   have:=zA hb;subst this
   simp only [notIn,qfb.2 hi] at h;cases h
theorem qkG{a b:Option Tmp}(h:qmh a b=true){u v:V}{t:Nat->V}:upd a u (upd b v t)=upd b v (upd a u t):=by
 cases a with
 | none=>rfl
 | some x=>
  cases b with
  | none=>rfl
  | some y=>
   funext i
   simp only [upd]
   cases hx:Nat.beq x i with
   | false=>rfl
   | true=>
    cases hy:Nat.beq y i with
    | false=>rfl
    | true=>
     have e1:=zA hx;have e2:=zA hy
     subst e1;subst e2
     simp [qmh,Nat.beq_refl] at h
theorem qbY{x:Oper×Md}{s s':S}(h:stepA C all x s=some s'):okDst C.n x.1.dst=true/\∃ v H,actA C all x.1 x.2 s.1 s.2=some (v,H)/\s'=(upd x.1.dst v s.1,H):=by
 unfold stepA at h
 obtain⟨h1,h2⟩:=qc h
 obtain⟨⟨v,H⟩,h3,h4⟩:=zAv.1 h2
 exact⟨h1,v,H,h3,h4.symm⟩
theorem qih{x y:Oper×Md}(hsw:qks x.1 x.2 y.1 y.2=true){t:Nat->V}{h H1 H2:List O}{va vb:V}(e1:actA C all x.1 x.2 t h=some (va,H1))(e2:actA C all y.1 y.2 t H1=some (vb,H2)) :
  actA C all y.1 y.2 t h=some (vb,H2)/\actA C all x.1 x.2 t H2=some (va,H2):=by
 obtain⟨a,ma⟩:=x
 obtain⟨b,mb⟩:=y
 unfold qks at hsw
 simp only at hsw e1 e2 ⊢
 split at hsw
 case h_2=>cases hsw
 rename_i ty m k hop
 split at hsw
 ·cases hsw
 rename_i hga
 split at hsw
 case h_2=>cases hsw
 rename_i ty' m' k' hop'
 split at hsw
 ·cases hsw
 rename_i hgb
 split at hsw
 case h_2=>cases hsw
 rename_i ids
 split at hsw
 case h_2=>cases hsw
 rename_i ids'
 unfold actA at e1 e2 ⊢
 rw [hga] at e1 ⊢
 rw [hgb] at e2 ⊢
 simp only [evM,hop,hop',evR,isS,cond_true,evS] at e1 e2 ⊢
 have hH1:h=H1:=by
  split at e1
  ·rw [qeK] at e1
   obtain⟨v,-,e⟩:=zS.1 e1
   cases e;rfl
  ·rw [qfJ] at e1
   obtain⟨v,-,e⟩:=zS.1 e1
   cases e;rfl
 subst hH1
 refine⟨e2,?_⟩
 unfold qci at e2;cases e2
theorem qly{x y:Oper×Md}(hsw:qit all x.1 x.2 y.1 y.2=true){s s1 s2:S}(h1:stepA C all x s=some s1)(h2:stepA C all y s1=some s2) :
  ∃ s1',stepA C all y s=some s1'/\stepA C all x s1'=some s2:=by
 simp only [qit,zB] at hsw
 obtain⟨⟨⟨hu,hxy⟩,hyx⟩,hm⟩:=hsw
 rw [zz] at hm
 rcases hm with hm | hm
 case inr=>
  obtain⟨o1,va,H1,e1,rfl⟩:=qbY h1
  obtain⟨o2,vb,H2,e2,rfl⟩:=qbY h2
  simp only at e2
  rw [<- qdj (qdP hxy)] at e2
  obtain⟨e3,e4⟩:=qih hm e1 e2
  refine⟨(upd y.1.dst vb s.1,H2),?_,?_⟩
  ·simp only [stepA,o2,cond_true,e3,Option.map_some]
  ·rw [qdj (qdP hyx (v:=vb))] at e4
   simp only [stepA,o1,cond_true,e4,Option.map_some,qkG hu]
 obtain⟨m1,m2,m3,m4⟩:=qmP hm
 obtain⟨o1,va,H1,e1,rfl⟩:=qbY h1
 obtain⟨o2,vb,H2,e2,rfl⟩:=qbY h2
 simp only at e2
 rw [<- qdj (qdP hxy)] at e2
 obtain⟨f1,l1⟩:=qei e1
 obtain⟨f2,l2⟩:=qei e2
 have full_of:∀ {md:Md},md.isPure=false->md.isFull=true\/md.isFull=false:=fun {md} _=>by cases md.isFull <;> simp
 have pf:∀ {md:Md},md.isPure=true->∀ i,¬ md.foot i:=fun {md} hp i=>by cases md <;> simp_all [Md.isPure,Md.foot]
 have pnf:∀ {md:Md},md.isPure=true->md.isFull=false:=fun {md} hp=>by cases md <;> simp_all [Md.isPure,Md.isFull]
 have nfull:∀ {md md':Md},(md.isFull=true->md'.isPure=true)->md'.isPure=false->md.isFull=false:=fun {md md'} hh hp=>by
  cases hf:md.isFull with
  | false=>rfl
  | true=>rw [hh hf] at hp;cases hp
 have ag1:Agree y.2 H1 s.2:=⟨fun hp=>l1 (nfull m3 hp),fun i hs=>f1 i fun hf=>m1 i hf hs⟩
 obtain⟨H1',e3,g3⟩:=qlx ag1 e2
 obtain⟨f3,l3⟩:=qei e3
 have ag2:Agree x.2 s.2 H1':=⟨fun hp=>(l3 (nfull m4 hp)).symm,fun i hs=>(f3 i fun hf=>m2 i hf hs).symm⟩
 obtain⟨H2',e4,g4⟩:=qlx ag2 e1
 obtain⟨f4,l4⟩:=qei e4
 have hH:H2=H2':=by
  apply qed
  ·cases hx:x.2.isFull with
   | true=>
    have hp:=m3 hx
    have h12:H2.length=H1.length:=l2 (pnf hp)
    have hs1:s.2=H1':=(qed (l3 (pnf hp)) fun i=>f3 i (pf hp i)).symm
    rw [<- hs1,e1] at e4
    cases e4
    exact h12
   | false=>
    cases hy:y.2.isFull with
    | true=>
     have hp:=m4 hy
     have hs1:H1=s.2:=qed (l1 hx) fun i=>f1 i (pf hp i)
     rw [hs1,e3] at e2
     cases e2
     exact (l4 hx).symm
    | false=>rw [l2 hy,l1 hx,l4 hx,l3 hy]
  ·intro i
   by_cases hx:x.2.foot i
   ·rw [f2 i fun hf=>m1 i hx (qfY hf),g4 i hx]
   ·by_cases hy:y.2.foot i
    ·rw [g3 i hy,f4 i hx]
    ·rw [f2 i hy,f1 i hx,f4 i hx,f3 i hy]
 subst hH
 refine⟨(upd y.1.dst vb s.1,H1'),?_,?_⟩
 ·simp only [stepA,o2,cond_true,e3,Option.map_some]
 ·rw [qdj (qdP hyx (v:=vb))] at e4
  simp only [stepA,o1,cond_true,e4,Option.map_some,qkG hu]
theorem qfX:(pre:List (Oper×Md)) -> {x:Oper×Md} -> {post:List (Oper×Md)}->(∀ p∈pre,qit all p.1 p.2 x.1 x.2=true) -> {s s':S} ->
  runA C all (pre++x :: post) s=some s'->∃ s1,stepA C all x s=some s1/\runA C all (pre++post) s1=some s'
 | [],x,post,hp,s,s',h=>by
  obtain⟨s1,h1,h2⟩:=zS.1 h
  exact⟨s1,h1,h2⟩
 | p :: pre,x,post,hp,s,s',h=>by
  obtain⟨s1,h1,h2⟩:=zS.1 h
  obtain⟨s2,h3,h4⟩:=qfX pre (fun q hq=>hp q (by simp [hq])) h2
  obtain⟨s1',h5,h6⟩:=qly (hp p (by simp)) h1 h3
  refine⟨s1',h5,?_⟩
  simp only [List.cons_append,runA,h6,Option.bind_some]
  exact h4
end
end Go.Abs
