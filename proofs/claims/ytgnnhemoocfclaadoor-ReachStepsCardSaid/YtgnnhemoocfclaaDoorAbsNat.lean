import Derived.Test.YtgnnhemoocfclaaDoorAbsOpsS
namespace Go.Abs
section
variable {ρ : Type} {C : Ctx} {h : List O} {t t' : Nat -> V}
theorem qo {α β : Type} (b : Bool) (x y : Option α) (K : α -> Option β) : (bif b then x else y).bind K = bif b then x.bind K else y.bind K:=by cases b <;> rfl
theorem qvU (op : BinOp) (k : IntKind) (x y : Int) (K : V -> Option ρ) : qpP op k x y K = (qpP op k x y some).bind K:=by
 cases op <;> simp only [qpP,qo,Option.bind_some,Option.bind_none]
theorem quc (op : BinOp) (x y : Bool) (K : V -> Option ρ) : qrc op x y K = (qrc op x y some).bind K:=by
 cases op <;> rfl
theorem qvT (op : BinOp) (ty : TypeId) (x y : V) (K : V -> Option ρ) : qhf C op ty x y K = (qhf C op ty x y some).bind K:=by
 cases x <;> cases y <;> simp only [qhf,qo,Option.bind_none]
 ·rw [qvU]; split <;> simp [Option.bind_none]
 ·rw [quc]
 ·unfold nilOp
  split
  ·rfl
  ·cases op <;> rfl
 ·unfold qvb
  split
  ·rfl
  ·rw [qo]
   congr 1
   split
   ·rfl
   ·split
    ·rfl
    ·split
     ·rfl
     ·split <;> rfl
theorem qwf (op : UnOp) (x : V) (K : V -> Option ρ) : unOpK op x K = (unOpK op x some).bind K:=by
 cases x <;> cases op <;> rfl
theorem qwR (ty : TypeId) (a : V) (K : V -> Option ρ) : loadK C h ty a K = (loadK C h ty a some).bind K:=by
 unfold loadK
 split
 ·rfl
 ·split
  ·rfl
  ·rw [qo]; rfl
theorem qlQ (size : Nat) (agg : Bool) (vs : List V) (i : Int) (K : V -> Option ρ) : (n j : Nat) -> qgl size agg vs i K n j = (qgl size agg vs i some n j).bind K
 | 0,j=>rfl
 | n + 1,j=>by simp only [qgl,qo,Option.bind_some]; rw [qlQ _ _ _ _ _ n]
theorem qpl {α β : Type} (x : Option Operand) (d : Int) (K : Int -> Option α) (L : α -> Option β) : (qgj t x d K).bind L = qgj t x d (fun y=>(K y).bind L):=by
 unfold qgj
 split
 ·rfl
 ·split <;> rfl
theorem qvQ (ty : TypeId) (ps : List (Nat × Operand)) (K : V -> Option ρ) : qob C t ty ps K = (qob C t ty ps some).bind K:=by
 unfold qob
 repeat' (first | rfl | split)
theorem qoO (ty : TypeId) (x : V) (f : Nat) (K : V -> Option ρ) : qfk C h ty x f K = (qfk C h ty x f some).bind K:=by
 unfold qfk
 split
 ·rfl
 ·split
  ·split
   ·rfl
   ·rw [qo]
    cases x <;> simp only [qo,Option.bind_some,Option.bind_none]
    split <;> rfl
  ·rfl
theorem qvI (ty : TypeId) (x : V) (f : Nat) (K : V -> Option ρ) : qpy C ty x f K = (qpy C ty x f some).bind K:=by
 unfold qpy
 split
 ·rfl
 ·split
  ·split
   ·rfl
   ·split
    ·rfl
    ·cases x <;> simp only [qo,Option.bind_some,Option.bind_none]
  ·rfl
theorem qnz (ty : TypeId) (x i : V) (K : V -> Option ρ) : qdZ C h ty x i K = (qdZ C h ty x i some).bind K:=by
 unfold qdZ
 split
 ·rfl
 ·cases i <;> simp only [Option.bind_none]
  cases x <;> simp only [qo,Option.bind_some,Option.bind_none]
  all_goals split <;> simp only [qo,Option.bind_some,Option.bind_none]
theorem qoN (ty : TypeId) (x i : V) (K : V -> Option ρ) : qfj C h ty x i K = (qfj C h ty x i some).bind K:=by
 unfold qfj
 split
 ·cases i <;> simp only [Option.bind_none]
  cases x <;> simp only [qo,Option.bind_some,Option.bind_none]
 ·exact qnz ty x i K
theorem qvG (ty : TypeId) (x i : V) (K : V -> Option ρ) : qpu C ty x i K = (qpu C ty x i some).bind K:=by
 unfold qpu
 split
 ·rfl
 ·split
  ·split
   ·rfl
   ·cases i <;> simp only [Option.bind_none]
    cases x <;> simp only [qo,Option.bind_none]
    rw [qlQ]
  ·rfl
theorem qqF (ty : TypeId) (s : ByteArray) (i : V) (K : V -> Option ρ) : qiq C ty s i K = (qiq C ty s i some).bind K:=rfl
theorem qtr (ty : TypeId) (x : V) (lo hi : Option Operand) (K : V -> Option ρ) : qle C ty x lo hi K = (qle C ty x lo hi some).bind K:=by
 unfold qle
 split
 ·rfl
 ·split
  ·rfl
  ·split
   ·rfl
   ·split
    ·rw [qo]; rfl
    ·rfl
theorem qvu (ty : TypeId) (x : V) (lo hi : Option Operand) (K : V -> Option ρ) : qmJ C h t ty x lo hi K = (qmJ C h t ty x lo hi some).bind K:=by
 unfold qmJ
 split
 ·exact qtr _ _ _ _ _
 ·cases x <;> (try simp only [qo,Option.bind_none,qpl,Option.bind_some])
  cases hi with
  | some _=>rfl
  | none =>
   simp only
   split
   ·simp only [qo,Option.bind_none,qpl,Option.bind_some]
   ·rfl
theorem qyE (ty : TypeId) (x : V) (K : V -> Option ρ) : lenK C h ty x K = (lenK C h ty x some).bind K:=by
 unfold lenK
 repeat' (first | rfl | split)
theorem qng (m : Bool) (vs : List V) (K : V -> Option ρ) : qjE m vs K = (qjE m vs some).bind K:=by
 unfold qjE
 repeat' (first | rfl | split)
theorem qvO (f : V) (args : List V) (K : V -> Option ρ) : qpN C h f args K = (qpN C h f args some).bind K:=by
 unfold qpN
 split
 ·split
  ·rfl
  ·split
   ·rename_i p _ _ _
    simp only [p.spOk]
    cases p.r <;> rfl
   ·rfl
 ·rfl
theorem qsS (s d : TypeId) (x : V) (K : V -> Option ρ) : qiP C s d x K = (qiP C s d x some).bind K:=by
 unfold qiP
 repeat' (first | rfl | split)
theorem qwx (c a b : V) (K : V -> Option ρ) : pickK c a b K = (pickK c a b some).bind K:=by
 cases c <;> simp only [pickK,qo,Option.bind_some,Option.bind_none]
theorem qqv (x : V) (K : V -> Option ρ) : qdb h x K = (qdb h x some).bind K:=by
 cases x <;> simp only [qdb,qo,Option.bind_some,Option.bind_none]
theorem qsF (x : V) (i : Nat) (K : V -> Option ρ) : qhz x i K = (qhz x i some).bind K:=by
 unfold qhz
 repeat' (first | rfl | split)
theorem qnp (ty : TypeId) (x i : V) (ok : Bool) (K : V -> Option ρ) : qll C h ty x i ok K = (qll C h ty x i ok some).bind K:=by
 unfold qll
 split
 ·rfl
 ·split
  ·rfl
  ·rw [qo]; rfl
theorem qlO (ty : TypeId) (x i : V) (ok : Bool) (K : V -> Option ρ) : qkv C h ty x i ok K = (qkv C h ty x i ok some).bind K:=rfl
theorem qwY (x : V) (K : V -> Option ρ) : lenNK h x K = (lenNK h x some).bind K:=rfl
theorem qvJ (x : V) (K : V -> Option ρ) : qsL h x K = (qsL h x some).bind K:=rfl
theorem qtO (ty : TypeId) (x : V) (K : V -> Option ρ) : qln C h ty x K = (qln C h ty x some).bind K:=by
 unfold qln
 split
 ·split
  ·rfl
  ·exact qwY _ _
 ·rfl
theorem qxH (c : Call) (K : V -> Option ρ) : callR C t h c K = (callR C t h c some).bind K:=by
 unfold callR
 split
 ·split
  ·split
   ·split
    ·exact qtO _ _ _
    ·exact qyE _ _ _
   ·rfl
  ·exact qng _ _ _
  ·exact qng _ _ _
  ·rfl
 ·split
  ·rfl
  ·exact qvO _ _ _
theorem qff (op : BinOp) (b : Bool) (K : V -> Option ρ) : qgS op b K = (qgS op b some).bind K:=by
 unfold qgS
 split <;> rfl
theorem qtx (op : BinOp) (ty : TypeId) (x : V) (K : V -> Option ρ) : qlh C op ty x K = (qlh C op ty x some).bind K:=by
 unfold qlh
 split
 ·rfl
 ·split
  ·split
   ·exact qff _ _ _
   ·rw [qo,qff]; rfl
   ·exact qff _ _ _
   ·rfl
  ·rfl
theorem qtH (op : BinOp) (ty : TypeId) (x : V) (K : V -> Option ρ) : qlk C h op ty x K = (qlk C h op ty x some).bind K:=by
 unfold qlk
 split
 ·rfl
 ·split
  ·split
   ·exact qff _ _ _
   ·split
    ·rw [qo,qff]; rfl
    ·rfl
   ·split
    ·rw [qo,qff]; rfl
    ·rfl
   ·rfl
  ·rfl
theorem qtR (op : BinOp) (ty : TypeId) (x : V) (K : V -> Option ρ) : qnA C op ty x K = (qnA C op ty x some).bind K:=rfl
theorem qvA (ty : TypeId) (x : V) (K : V -> Option ρ) : qsf C ty x K = (qsf C ty x some).bind K:=rfl
theorem qeQ (o : Op) (K : V -> Option ρ) : evR C o t h K = (evR C o t h some).bind K:=by
 unfold evR
 split
 ·rfl
 ·rfl
 ·exact qwx _ _ _ _
 ·split
  ·exact qtR _ _ _ _
  ·exact qtx _ _ _ _
  ·exact qtH _ _ _ _
  ·exact qvT _ _ _ _ _
 ·exact qvA _ _ _
 ·exact qwf _ _ _
 ·exact qsS _ _ _ _
 ·exact qqv _ _
 ·exact qwR _ _ _
 ·exact qoO _ _ _ _
 ·exact qvI _ _ _ _
 ·exact qoN _ _ _ _
 ·split
  ·exact qqF _ _ _ _
  ·exact qvG _ _ _ _
 ·exact qsF _ _ _
 ·exact qvQ _ _ _
 ·split
  ·simp only [qo,Option.bind_some,Option.bind_none]
  ·rfl
 ·split
  ·exact qvu _ _ _ _ _
  ·rfl
 ·split
  ·exact qlO _ _ _ _ _
  ·exact qnp _ _ _ _ _
 ·exact qvJ _ _
 ·exact qxH _ _
 ·rfl
abbrev trip (v : V) (ss : List (Nat × O)) (mk : Option O) : Option (V × List (Nat × O) × Option O):=some (v,ss,mk)
theorem qoa (nid : Nat) (ty : TypeId) (n : Nat) (ps : List (Nat × Operand)) (K : V -> List (Nat × O) -> Option O -> Option ρ) : qdA C t h nid ty n ps K = (qdA C t h nid ty n ps trip).bind fun p=>K p.1 p.2.1 p.2.2:=by
 unfold qdA
 split
 ·rfl
 ·split
  ·rfl
  ·rw [qo]
   split
   ·rfl
   ·split <;> rfl
theorem qnn (nid : Nat) (ty : TypeId) (l c : V) (K : V -> List (Nat × O) -> Option O -> Option ρ) : qdY C nid ty l c K = (qdY C nid ty l c trip).bind fun p=>K p.1 p.2.1 p.2.2:=by
 unfold qdY
 split
 ·rfl
 ·split
  ·rfl
  ·cases l <;> simp only [Option.bind_none]
   cases c <;> simp only [qo,Option.bind_some,Option.bind_none]
theorem qoJ (nid : Nat) (ty : TypeId) (l c : V) (t : Kt) (K : V -> List (Nat × O) -> Option O -> Option ρ) : qfg C nid ty l c t K = (qfg C nid ty l c t trip).bind fun p=>K p.1 p.2.1 p.2.2:=by
 unfold qfg
 split
 ·rfl
 ·split
  ·cases l <;> simp only [Option.bind_none]
   cases c <;> simp only [qo,Option.bind_some,Option.bind_none]
  ·rfl
theorem qoK (nid : Nat) (ty : TypeId) (l c : V) (K : V -> List (Nat × O) -> Option O -> Option ρ) : qfh C nid ty l c K = (qfh C nid ty l c trip).bind fun p=>K p.1 p.2.1 p.2.2:=by
 unfold qfh
 split
 ·exact qoJ ..
 ·exact qnn ..
theorem qvq (ty : TypeId) (o ver i off : Nat) (v : V) (K : V -> List (Nat × O) -> Option O -> Option ρ) : qpe C h ty o ver i off v K = (qpe C h ty o ver i off v trip).bind fun p=>K p.1 p.2.1 p.2.2:=by
 unfold qpe
 split
 ·rfl
 ·split
  ·rw [qo]
   split
   ·rw [qo]
    split <;> rfl
   ·split
    ·rfl
    ·split
     ·rfl
     ·rw [qo]; rfl
  ·rfl
theorem qmF (ty : TypeId) (a v : V) (K : V -> List (Nat × O) -> Option O -> Option ρ) : qjv C h ty a v K = (qjv C h ty a v trip).bind fun p=>K p.1 p.2.1 p.2.2:=by
 unfold qjv
 split
 ·rfl
 ·rw [qo]
  cases a <;> simp only [Option.bind_none]
  ·split <;> simp only [qo,Option.bind_some,Option.bind_none]
  ·split
   ·rw [qo]
    split <;> rfl
   ·rfl
theorem qvr (ty : TypeId) (a v : V) (K : V -> List (Nat × O) -> Option O -> Option ρ) : qpf C h ty a v K = (qpf C h ty a v trip).bind fun p=>K p.1 p.2.1 p.2.2:=by
 unfold qpf
 split
 ·split
  ·exact qvq ..
  ·exact qmF ..
 ·exact qmF ..
theorem qof (nid : Nat) (ty : TypeId) (x y : V) (K : V -> List (Nat × O) -> Option O -> Option ρ) : qjO C h nid ty x y K = (qjO C h nid ty x y trip).bind fun p=>K p.1 p.2.1 p.2.2:=by
 unfold qjO
 split
 ·rfl
 ·split
  ·rfl
  ·split
   ·rfl
   ·rw [qo]
    cases x <;> simp only [Option.bind_none,qo,Option.bind_some]
    split
    ·rw [qo]
     split
     ·rfl
     ·rw [qo]; rfl
    ·rfl
theorem qmd (nid : Nat) (ty : TypeId) (x y : V) (K : V -> List (Nat × O) -> Option O -> Option ρ) : qhA C h nid ty x y K = (qhA C h nid ty x y trip).bind fun p=>K p.1 p.2.1 p.2.2:=by
 unfold qhA
 split
 ·rfl
 ·split
  ·rfl
  ·rw [qo]
   split
   ·rfl
   ·cases x <;> simp only [Option.bind_none,qo,Option.bind_some]
    split
    ·rw [qo]
     split
     ·rfl
     ·rw [qo]; rfl
    ·rfl
theorem que (nid : Nat) (ty : TypeId) (x y : V) (K : V -> List (Nat × O) -> Option O -> Option ρ) : qlC C h nid ty x y K = (qlC C h nid ty x y trip).bind fun p=>K p.1 p.2.1 p.2.2:=by
 unfold qlC
 split
 ·exact qof ..
 ·split
  ·exact qof ..
  ·exact qmd ..
 ·exact qmd ..
theorem qxC (ty : TypeId) (x y : V) (K : V -> List (Nat × O) -> Option O -> Option ρ) : copyK C h ty x y K = (copyK C h ty x y trip).bind fun p=>K p.1 p.2.1 p.2.2:=by
 unfold copyK
 split
 ·rfl
 ·split
  ·rfl
  ·split
   ·rfl
   ·cases x <;> simp only [Option.bind_none]
    ·split
     ·rw [qo]
      split <;> rfl
     ·rfl
    ·split
     ·rw [qo]
      split <;> rfl
     ·rfl
theorem qsj (nid : Nat) (ty : TypeId) (rs : Option V) (K : V -> List (Nat × O) -> Option O -> Option ρ) : qiJ C nid ty rs K = (qiJ C nid ty rs trip).bind fun p=>K p.1 p.2.1 p.2.2:=by
 unfold qiJ
 split
 ·split
  ·rfl
  ·split <;> rfl
 ·split <;> rfl
theorem qnk (ty : TypeId) (m k x : V) (K : V -> List (Nat × O) -> Option O -> Option ρ) : qfw C h ty m k x K = (qfw C h ty m k x trip).bind fun p=>K p.1 p.2.1 p.2.2:=rfl
theorem qtw (nid : Nat) (ty : TypeId) (x : V) (K : V -> List (Nat × O) -> Option O -> Option ρ) : qmZ C h nid ty x K = (qmZ C h nid ty x trip).bind fun p=>K p.1 p.2.1 p.2.2:=rfl
theorem qnl (ty : TypeId) (m k x : V) (K : V -> List (Nat × O) -> Option O -> Option ρ) : qfx C h ty m k x K = (qfx C h ty m k x trip).bind fun p=>K p.1 p.2.1 p.2.2:=rfl
theorem qjb (ty : TypeId) (m k x : V) (K : V -> List (Nat × O) -> Option O -> Option ρ) : qdX C h ty m k x K = (qdX C h ty m k x trip).bind fun p=>K p.1 p.2.1 p.2.2:=by
 unfold qdX
 split
 ·exact qnl _ _ _ _ _
 ·rw [qo]
  congr 1
  split
  ·rfl
  ·split <;> rfl
theorem qqA (ty : TypeId) (m k : V) (K : V -> List (Nat × O) -> Option O -> Option ρ) : qgU C h ty m k K = (qgU C h ty m k trip).bind fun p=>K p.1 p.2.1 p.2.2:=rfl
theorem qnS (ty : TypeId) (m s x : V) (K : V -> List (Nat × O) -> Option O -> Option ρ) : qfP C h ty m s x K = (qfP C h ty m s x trip).bind fun p=>K p.1 p.2.1 p.2.2:=rfl
theorem qvx (nid : Nat) (ty : TypeId) (x : V) (K : V -> List (Nat × O) -> Option O -> Option ρ) : qrY C h nid ty x K = (qrY C h nid ty x trip).bind fun p=>K p.1 p.2.1 p.2.2:=rfl
theorem qtZ (ty : TypeId) (m k : V) (K : V -> List (Nat × O) -> Option O -> Option ρ) : qly C h ty m k K = (qly C h ty m k trip).bind fun p=>K p.1 p.2.1 p.2.2:=by
 unfold qly
 split
 ·rfl
 ·rw [qo]
  congr 1
  split <;> rfl
theorem qvM (ty : TypeId) (m : V) (K : V -> List (Nat × O) -> Option O -> Option ρ) : qpJ C h ty m K = (qpJ C h ty m trip).bind fun p=>K p.1 p.2.1 p.2.2:=by
 unfold qpJ
 split
 ·rfl
 ·rw [qo]; rfl
theorem qra (ty : TypeId) (m : V) (K : V -> List (Nat × O) -> Option O -> Option ρ) : qhe C h ty m K = (qhe C h ty m trip).bind fun p=>K p.1 p.2.1 p.2.2:=by
 unfold qhe
 repeat' (first | rfl | split | rw [qo]; congr 1)
theorem qeP (o : Op) (nid : Nat) (K : V -> List (Nat × O) -> Option O -> Option ρ) : evS C o t h nid K = (evS C o t h nid trip).bind fun p=>K p.1 p.2.1 p.2.2:=by
 unfold evS
 split
 ·split <;> rfl
 ·rw [qo]; rfl
 ·exact qoa _ _ _ _ _
 ·exact qoK _ _ _ _ _
 ·exact qvr _ _ _ _
 ·exact qsj _ _ _ _
 ·split
  ·exact qnk _ _ _ _ _
  ·exact qjb _ _ _ _ _
 ·exact qjb _ _ _ _ _
 ·exact qqA _ _ _ _
 ·exact qnS _ _ _ _ _
 ·split
  ·exact qtw _ _ _ _
  ·exact qvx _ _ _ _
 ·rw [qo]
  congr 1
  ·split
   ·exact qtZ _ _ _ _
   ·rfl
  rw [qo]
  congr 1
  ·split
   ·split
    ·exact qvM _ _ _
    ·exact qra _ _ _
   ·rfl
  split
  ·rw [qo,qo,que,qxC]; rfl
  ·rfl
 ·rfl
abbrev two (v : V) (h : List O) : Option (V × List O):=some (v,h)
theorem qvP (f o ver : Nat) (q : Nst) (d : q.sh.den) (i : Nat) (args : List V) (K : V -> List O -> Option ρ) : qsY C h f o ver q d i args K = (qsY C h f o ver q d i args two).bind fun p=>K p.1 p.2:=rfl
theorem qvN (f : V) (args : List V) (K : V -> List O -> Option ρ) : qsV C h f args K = (qsV C h f args two).bind fun p=>K p.1 p.2:=by
 unfold qsV
 split
 ·split
  ·rename_i p _
   simp only [p.spOk]
   cases p.r <;> rfl
  ·split
   ·exact qvP _ _ _ _ _ _ _ _
   ·rfl
 ·rfl
theorem qvS (o : Op) (K : V -> List O -> Option ρ) (K' : Option ρ) (K2 : Option (V × List O)) (hk : K' = K2.bind fun p=>K p.1 p.2) : qpO C o t h K K' = (qpO C o t h two K2).bind fun p=>K p.1 p.2:=hk
theorem qzY (o : Op) (K : V -> List O -> Option ρ) : evW C o t h K = (evW C o t h two).bind fun p=>K p.1 p.2:=by
 unfold evW
 rw [qo]
 congr 1
 ·rw [qeP o h.length (fun v ss mk=>K v (qP ss h ++ mk.toList)),qeP o h.length (fun v ss mk=>two v (qP ss h ++ mk.toList))]
  cases evS C o t h h.length trip <;> rfl
 ·split
  ·exact qvN _ _ _
  split
  ·rfl
  split
  ·rw [qo]; rfl
  ·refine qvS _ _ _ _ ?_
   rw [qeQ o (fun v=>K v h),qeQ o (fun v=>two v h)]
   cases evR C o t h some <;> rfl
theorem qix (f : V) (args : List V) (K : O -> Option ρ) : callN C f args K = (callN C f args some).bind K:=by
 unfold callN
 split
 ·rw [qo]
  congr 1
  split
  ·rfl
  ·split
   ·rfl
   ·rename_i p _ _ _ _
    simp only [p.spOk]
    cases p.r with
    | none=>rfl
    | some a =>
     simp only [Option.bind_some]
     split <;> rfl
 ·rfl
theorem qxG (ids : List Nat) (f : V) (args : List V) (K : V -> List O -> Option ρ) : callS C h ids f args K = (callS C h ids f args two).bind fun p=>K p.1 p.2:=by
 unfold callS
 split
 ·rw [qo]
  congr 1
  split
  ·rfl
  ·split
   ·rfl
   ·rename_i p _ _ _ _
    simp only [p.spOk]
    cases p.r with
    | none=>rfl
    | some a=>simp only [Option.bind_some,qo]; rfl
 ·rfl
theorem qAa (o : Op) (md : Md) (K : V -> List O -> Option ρ) : evM C o t h md K = (evM C o t h md two).bind fun p=>K p.1 p.2:=by
 cases md with
 | pure=>simp only [evM]; rw [qeQ o (fun v=>K v h),qeQ o (fun v=>two v h)]; cases evR C o t [] some <;> rfl
 | rd ids=>simp only [evM]; rw [qeQ o (fun v=>K v h),qeQ o (fun v=>two v h)]; cases evR C o t (onlyF (memN ids) 0 h) some <;> rfl
 | wr ids =>
  simp only [evM,qo,Option.bind_none]
  congr 1
  ·refine (qeP o 0 _).trans (Eq.trans ?_ (congrArg (fun z=>Option.bind z fun p : V × List O=>K p.1 p.2) (qeP o 0 _).symm))
   cases evS C o t (onlyF (memN ids) 0 h) 0 trip with
   | none=>rfl
   | some p =>
    obtain ⟨v,ss,mk⟩:=p
    cases mk <;> simp only [Option.bind_some,qo,Option.bind_none]
  ·split
   ·exact qxG _ _ _ _
   ·split
    ·split <;> simp only [qo,Option.bind_none] <;> rfl
    ·split <;> simp only [qo,Option.bind_none] <;> rfl
 | new id =>
  simp only [evM,qo,Option.bind_none]
  congr 1
  ·refine (qeP o id _).trans (Eq.trans ?_ (congrArg (fun z=>Option.bind z fun p : V × List O=>K p.1 p.2) (qeP o id _).symm))
   cases evS C o t [] id trip with
   | none=>rfl
   | some p =>
    obtain ⟨v,ss,mk⟩:=p
    cases ss <;> cases mk <;> simp only [Option.bind_some,Option.bind_none]
    split <;> simp only [qo,Option.bind_some,Option.bind_none]
  split
  ·refine (qix _ _ _).trans (Eq.trans ?_ (congrArg (fun z=>Option.bind z fun p : V × List O=>K p.1 p.2) (qix _ _ _).symm))
   cases callN C _ _ some with
   | none=>rfl
   | some x =>
    simp only [Option.bind_some]
    split <;> simp only [qo,Option.bind_some,Option.bind_none]
  ·rfl
 | full=>exact qzY o K
end
end Go.Abs
namespace Go.Abs
section
variable {ρ : Type} {C : Ctx} {h h' : List O} {t t' : Nat -> V}
def Same (t t' : Nat -> V) (o : Op) : Prop:=∀ i ∈ qzn o,t i = t' i
theorem qyO {x : Operand} (hx : ∀ i,x = .tmp i -> t i = t' i) : ev t x = ev t' x:=by
 cases x with
 | tmp i=>exact hx i rfl
 | _=>rfl
theorem Same.ev {o : Op} (hs : Same t t' o) {x : Operand} (hx : x ∈ o.operands) : ev t x = ev t' x :=
 qyO fun i hi=>hs i (by
  subst hi
  exact List.mem_filterMap.2 ⟨.tmp i,by simpa using hx,rfl⟩)
theorem qjH {place : Nat -> Option (Nat × Nat)} : (ps : List (Nat × Operand)) -> (vs : List V) -> (∀ p ∈ ps,ev t p.2 = ev t' p.2) -> fillV place t ps vs = fillV place t' ps vs
 | [],vs,_=>rfl
 | (i,x) :: r,vs,hp=>by
  have hx:=hp (i,x) (by simp)
  simp only at hx
  simp only [fillV,hx]
  split
  ·rfl
  ·rw [qjH r _ fun p hm=>hp p (by simp [hm])]
theorem qiI {xs : List Operand} (hx : ∀ x ∈ xs,ev t x = ev t' x) : xs.map (ev t) = xs.map (ev t'):=List.map_congr_left hx
theorem qub {c : Call} (hx : ∀ x ∈ c.operands,ev t x = ev t' x) (K : V -> Option ρ) : callR C t h c K = callR C t' h c K:=by
 have hargs : ∀ x ∈ c.args,ev t x = ev t' x:=fun x hm=>hx x (by simp [Call.operands,hm])
 have hm:=qiI (t:=t) (t':=t') (xs:=c.args.toList) (fun x hm=>hargs x (by simpa using hm))
 unfold callR
 split
 ·split
  ·split
   ·rename_i x ty e _
    rw [hargs x (Array.mem_of_getElem? e)]
   ·rfl
  ·rw [hm]
  ·rw [hm]
  ·rfl
 ·have : callT C.T t (.call c) = callT C.T t' (.call c):=by
   unfold callT
   simp only
   split
   ·rename_i f hf
    rw [hm,hx f (by simp [Call.operands,hf])]
   ·rename_i r nm hf
    rw [hm,hx r (by simp [Call.operands,hf])]
   ·rfl
  rw [this]
theorem qnR {o : Op} (hs : Same t t' o) (K : V -> Option ρ) : evR C o t h K = evR C o t' h K:=by
 have hev : ∀ x ∈ o.operands,ev t x = ev t' x:=fun x hx=>hs.ev hx
 cases o <;> simp only [Op.operands] at hev <;> simp only [evR]
 case build ty ps =>
  unfold qob
  have:=fun place vs=>qjH (place:=place) ps.toList vs (fun p hp=>hev p.2 (by simp; exact ⟨p.1,by simpa using hp⟩))
  simp only [this]
 case makeFunc fn first caps =>
  rw [qiI (xs:=caps.toList) fun x hx=>hev x (by simp; exact .inr (by simpa using hx)),qiI (xs:=first.toList) fun x hx=>hev x (by simp; exact .inl (by simpa using hx))]
 case slice ty x lo hi mx =>
  have h1:=hev x (by simp)
  have h2 : ∀ d (K : Int -> Option ρ),qgj t lo d K = qgj t' lo d K:=fun d K=>by
   cases lo with
   | none=>rfl
   | some y=>simp only [qgj,hev y (by simp)]
  have h3 : ∀ d (K : Int -> Option ρ),qgj t hi d K = qgj t' hi d K:=fun d K=>by
   cases hi with
   | none=>rfl
   | some y=>simp only [qgj,hev y (by simp)]
  cases mx <;> simp only [qmJ,h1,h2,h3]
 case call c=>exact qub (by simpa using hev) K
 all_goals (first | rfl | (simp_all; done))
theorem qnP {o : Op} (hs : Same t t' o) (nid : Nat) (K : V -> List (Nat × O) -> Option O -> Option ρ) : evS C o t h nid K = evS C o t' h nid K:=by
 have hev : ∀ x ∈ o.operands,ev t x = ev t' x:=fun x hx=>hs.ev hx
 cases o <;> simp only [Op.operands] at hev <;> simp only [evS]
 case buildSlice ty n ps =>
  unfold qdA
  have:=fun place vs=>qjH (place:=place) ps.toList vs (fun p hp=>hev p.2 (by simp; exact ⟨p.1,by simpa using hp⟩))
  simp only [this]
 case call c =>
  have hargs : ∀ x ∈ c.args,ev t x = ev t' x:=fun x hm=>hev x (by simp [Call.operands,hm])
  congr 1
  ·split
   ·rename_i x y ty e1 e2 _
    rw [hargs x (Array.mem_of_getElem? e1),hargs y (Array.mem_of_getElem? e2)]
   ·rfl
  congr 1
  ·split
   ·rename_i x ty e1 _
    rw [hargs x (Array.mem_of_getElem? e1)]
   ·rfl
  split
  ·rename_i x y ty ty' e1 e2 _ _
   rw [hargs x (Array.mem_of_getElem? e1),hargs y (Array.mem_of_getElem? e2)]
  ·rfl
 case makeMap ty rs =>
  cases rs with
  | none=>rfl
  | some x=>simp only [Option.map_some,hev x (by simp)]
 all_goals (first | rfl | (simp_all; done))
theorem qjM {T : List (Nat × TE)} {o : Op} (hs : Same t t' o) : callT T t o = callT T t' o:=by
 unfold callT
 split
 ·rename_i c
  have hc : ∀ x ∈ c.operands,ev t x = ev t' x:=fun x hx=>hs.ev (by simpa [Op.operands] using hx)
  have hm:=qiI (t:=t) (t':=t') (xs:=c.args.toList) (fun x hm=>hc x (by simp [Call.operands]; exact .inr (by simpa using hm)))
  split
  ·rename_i f hf
   rw [hm,hc f (by simp [Call.operands,hf])]
  ·rename_i r nm hf
   rw [hm,hc r (by simp [Call.operands,hf])]
  ·rfl
 ·rfl
theorem qtc {o : Op} (hs : Same t t' o) (K : V -> List O -> Option ρ) (K' : Option ρ) : qpO C o t h K K' = qpO C o t' h K K':=rfl
theorem qmE {o : Op} (hs : Same t t' o) (nid : Nat) : takeO C o t h nid = takeO C o t' h nid:=by
 cases o with
 | lookup ty x i ok =>
  have e1:=hs.ev (x:=x) (by simp [Op.operands])
  have e2:=hs.ev (x:=i) (by simp [Op.operands])
  cases ok <;> simp only [takeO,e1,e2]
 | load ty x =>
  have e1:=hs.ev (x:=x) (by simp [Op.operands])
  simp only [takeO,e1]
 | _=>rfl
theorem qnW {o : Op} (hs : Same t t' o) : dropO C o t h = dropO C o t' h:=by
 cases o with
 | slice ty x lo hi mx =>
  have e1:=hs.ev (x:=x) (by simp [Op.operands])
  cases lo with
  | none=>rfl
  | some lo =>
   have e2:=hs.ev (x:=lo) (by simp [Op.operands])
   cases hi <;> cases mx <;> first | rfl | simp only [dropO,e1,e2]
 | _=>rfl
theorem qxr {o : Op} (hs : Same t t' o) (md : Md) (K : V -> List O -> Option ρ) : evM C o t h md K = evM C o t' h md K:=by
 cases md <;> simp only [evM]
 ·exact qnR hs _
 ·exact qnR hs _
 ·rw [qnP hs,qjM hs,qmE hs,qnW hs]
 ·rw [qnP hs,qjM hs]
 ·unfold evW
  rw [qnP hs,qnR hs,qjM hs,qtc hs,qmE hs,qnW hs]
def Md.sees : Md -> Nat -> Prop
 | .pure,_=>False
 | .rd ids,i=>memN ids i = true
 | .wr ids,i=>memN ids i = true
 | .new id,i=>i = id
 | .full,_=>True
def Md.foot : Md -> Nat -> Prop
 | .pure,_=>False
 | .rd _,_=>False
 | .wr ids,i=>memN ids i = true
 | .new id,i=>i = id
 | .full,_=>True
def Md.isFull : Md -> Bool
 | .full=>true
 | _=>false
def Md.isPure : Md -> Bool
 | .pure=>true
 | _=>false
structure Agree (md : Md) (h h' : List O) : Prop where
 len : md.isPure = false -> h.length = h'.length
 get : ∀ i,md.sees i -> getO h i = getO h' i
theorem qkF {h h' : List O} (hl : h.length = h'.length) (hg : ∀ i,getO h i = getO h' i) : h = h':=by
 apply List.ext_getElem hl
 intro i h1 h2
 have:=hg i
 simpa [getO,List.getD,h1,h2] using this
theorem qil (p : Nat -> Bool) : (i : Nat) -> (h : List O) -> (onlyF p i h).length = h.length
 | _,[]=>rfl
 | i,x :: h=>by simp [onlyF,qil p (i + 1) h]
theorem qjB {ids : List Nat} (hl : h.length = h'.length) (hg : ∀ i,memN ids i = true -> getO h i = getO h' i) : onlyF (memN ids) 0 h = onlyF (memN ids) 0 h':=by
 apply qkF
 ·rw [qil,qil,hl]
 ·intro i
  rw [qim,qim,Nat.zero_add]
  split
  ·exact hg i ‹_›
  ·rfl
theorem qgB : (ss : List (Nat × O)) -> (h : List O) -> (i : Nat) -> (∀ p ∈ ss,p.1 ≠ i) -> getO (qP ss h) i = getO h i
 | [],h,i,_=>rfl
 | (j,x) :: r,h,i,hp=>by
  simp only [qP]
  rw [qgB r _ i fun p hm=>hp p (by simp [hm])]
  have:=hp (j,x) (by simp)
  simp only at this
  simp [getO,List.getD,List.getElem?_set_ne this]
theorem qdP {h h' : List O} (hl : h.length = h'.length) {i j : Nat} {x : O} (hg : getO h i = getO h' i) : getO (h.set j x) i = getO (h'.set j x) i:=by
 simp only [getO,List.getD,List.getElem?_set] at hg ⊢
 rw [hl]
 split
 ·rfl
 ·exact hg
theorem qeO : (ss : List (Nat × O)) -> {h h' : List O} -> h.length = h'.length -> (i : Nat) -> getO h i = getO h' i -> getO (qP ss h) i = getO (qP ss h') i
 | [],h,h',_,i,hg=>hg
 | (j,x) :: r,h,h',hl,i,hg=>qeO r (by simp [hl]) i (qdP hl hg)
theorem qpM {h : List O} {ids : List Nat} {f : V} {args : List V} {v : V} {H : List O} (he : callS C h ids f args two = some (v,H)) :
  ∃ g caps p u a,f = .clo g caps /\ qaX ids (argsF g args caps) = true /\ clsd ids (onlyF (memN ids) 0 h) = true /\ C.G (tgtF g) (argsF g args caps) (onlyF (memN ids) 0 h) = some p /\ p.h = some u /\ p.r = some a /\
   (u a (onlyF (memN ids) 0 h)).length = h.length /\ qjC (memN ids) 0 (u a (onlyF (memN ids) 0 h)) = true /\ v = p.v a /\ H = mixF (memN ids) 0 (u a (onlyF (memN ids) 0 h)) h:=by
 unfold callS at he
 split at he
 ·rename_i g caps
  obtain ⟨hc,he⟩:=qc he
  rw [Bool.and_eq_true] at hc
  split at he
  ·cases he
  ·rename_i p hp
   split at he
   ·cases he
   ·rename_i u hu
    cases hr : p.r with
    | none=>rw [hr] at he; cases he
    | some a =>
     rw [hr] at he
     simp only [Option.bind_some,p.spOk] at he
     obtain ⟨hl,he⟩:=qc he
     rw [Bool.and_eq_true] at hl
     cases he
     exact ⟨g,caps,p,u,a,rfl,hc.1,hc.2,hp,hu,hr,Nat.eq_of_beq_eq_true hl.1,hl.2,rfl,rfl⟩
 ·cases he
theorem qva {o : Op} {md : Md} {v : V} {H : List O} (he : evM C o t h md two = some (v,H)) : (∀ i,¬ md.foot i -> getO H i = getO h i) /\ (md.isFull = false -> H.length = h.length):=by
 cases md with
 | pure =>
  simp only [evM] at he
  rw [qeQ o] at he
  obtain ⟨u,_,he⟩:=Option.bind_eq_some_iff.1 he
  cases he
  exact ⟨fun _ _=>rfl,fun _=>rfl⟩
 | rd ids =>
  simp only [evM] at he
  rw [qeQ o] at he
  obtain ⟨u,_,he⟩:=Option.bind_eq_some_iff.1 he
  cases he
  exact ⟨fun _ _=>rfl,fun _=>rfl⟩
 | wr ids =>
  simp only [evM] at he
  cases hS : isS o with
  | false =>
   rw [hS,cond_false] at he
   split at he
   ·obtain ⟨g,caps,p,u,a,-,-,-,-,-,-,hl,-,-,rfl⟩:=qpM he
    exact ⟨fun i hn=>by rw [qkr _ _ _ _ hl,Nat.zero_add,if_neg (show ¬ memN ids i = true from hn)],fun _=>qnf _ _ _ _ hl⟩
   ·split at he
    ·rename_i p hp
     split at he
     ·rename_i hg
      obtain ⟨hi,he⟩:=qc he
      simp only [Bool.and_eq_true] at hi
      cases he
      refine ⟨fun i hn=>?_,fun _=>by rw [List.length_set,qaK]⟩
      have hne : ids.headD 0 ≠ i:=fun e=>hn (by rw [<- e]; exact hi.1)
      have e1 : getO ((qP p.1 h).set (ids.headD 0) p.2) i = getO (qP p.1 h) i:=by unfold getO; rw [List.getD_eq_getElem?_getD,List.getD_eq_getElem?_getD,List.getElem?_set_ne hne]
      rw [e1]
      refine qgB p.1 h i fun q hq e=>hn ?_
      have:=List.all_eq_true.1 hi.2.2 q hq
      rw [e] at this
      exact this
     ·cases he
    ·split at he
     ·rename_i p hp
      obtain ⟨hi,he⟩:=qc he
      cases he
      refine ⟨fun i hn=>?_,fun _=>by rw [List.length_set]⟩
      rw [Bool.and_eq_true] at hi
      have hne : p.2.2.1 ≠ i:=fun e=>hn (by rw [<- e]; exact hi.1)
      unfold getO; rw [List.getD_eq_getElem?_getD,List.getD_eq_getElem?_getD,List.getElem?_set_ne hne]
     ·cases he
  | true =>
  rw [hS,cond_true] at he
  rw [qeP o] at he
  obtain ⟨⟨u,ss,mk⟩,_,he⟩:=Option.bind_eq_some_iff.1 he
  cases mk with
  | some x=>cases he
  | none =>
   simp only at he
   obtain ⟨hi,he⟩:=qc he
   cases he
   refine ⟨fun i hn=>qgB ss h i fun p hp e=>hn ?_,fun _=>qaK _ _⟩
   have:=List.all_eq_true.1 hi p hp
   rw [e] at this
   exact this
 | new id =>
  simp only [evM] at he
  cases hS : isS o with
  | true =>
   rw [hS,cond_true,qeP o] at he
   obtain ⟨⟨u,ss,mk⟩,_,he⟩:=Option.bind_eq_some_iff.1 he
   cases ss with
   | cons p ss=>cases he
   | nil =>
    cases mk with
    | none=>cases he
    | some x =>
     simp only at he
     cases hg : getO h id with
     | none =>
      rw [hg] at he
      simp only at he
      obtain ⟨_,he⟩:=qc he
      cases he
      refine ⟨fun i hn=>?_,fun _=>by simp⟩
      have hn : id ≠ i:=fun e=>hn e.symm
      simp [getO,List.getD,List.getElem?_set_ne hn]
     | cells vs=>rw [hg] at he; cases he
     | nst _ _ _=>rw [hg] at he; cases he
     | kds _ _ _ _ _=>rw [hg] at he; cases he
     | gone=>rw [hg] at he; cases he
     | oth fz q d=>rw [hg] at he; cases he
     | row fz ver e s xs=>rw [hg] at he; cases he
  | false =>
   rw [hS,cond_false] at he
   split at he
   ·rw [qix] at he
    obtain ⟨x,_,he⟩:=Option.bind_eq_some_iff.1 he
    cases hg : getO h id with
    | none =>
     rw [hg] at he
     simp only at he
     obtain ⟨_,he⟩:=qc he
     cases he
     refine ⟨fun i hn=>?_,fun _=>by simp⟩
     have hn : id ≠ i:=fun e=>hn e.symm
     simp [getO,List.getD,List.getElem?_set_ne hn]
    | cells vs=>rw [hg] at he; cases he
    | nst _ _ _=>rw [hg] at he; cases he
    | kds _ _ _ _ _=>rw [hg] at he; cases he
    | gone=>rw [hg] at he; cases he
    | oth fz q d=>rw [hg] at he; cases he
    | row fz ver e s xs=>rw [hg] at he; cases he
   ·cases he
 | full=>exact ⟨fun i hn=>absurd trivial hn,fun hf=>by cases hf⟩
theorem qxq {o : Op} {md : Md} {v : V} {H : List O} (ha : Agree md h h') (he : evM C o t h md two = some (v,H)) :
  ∃ H',evM C o t h' md two = some (v,H') /\ ∀ i,md.foot i -> getO H i = getO H' i:=by
 cases md with
 | pure =>
  simp only [evM] at he ⊢
  rw [qeQ o] at he
  obtain ⟨u,h1,he⟩:=Option.bind_eq_some_iff.1 he
  cases he
  refine ⟨h',?_,fun i hf=>hf.elim⟩
  rw [qeQ o,h1]; rfl
 | rd ids =>
  simp only [evM] at he ⊢
  rw [qeQ o] at he
  obtain ⟨u,h1,he⟩:=Option.bind_eq_some_iff.1 he
  cases he
  refine ⟨h',?_,fun i hf=>hf.elim⟩
  rw [qeQ o,<- qjB (ha.len rfl) ha.get,h1]; rfl
 | wr ids =>
  simp only [evM] at he ⊢
  have hof:=qjB (ids:=ids) (ha.len rfl) ha.get
  cases hS : isS o with
  | false =>
   rw [hS,cond_false] at he
   rw [cond_false]
   split at he
   ·rename_i f args hc
    obtain ⟨g,caps,p,u,a,e1,e2,e3,e4,e5,e6,hl,e7,rfl,rfl⟩:=qpM he
    have hl' : (u a (onlyF (memN ids) 0 h')).length = h'.length:=by rw [<- hof,hl]; exact ha.len rfl
    refine ⟨mixF (memN ids) 0 (u a (onlyF (memN ids) 0 h')) h',?_,fun i hf=>?_⟩
    ·simp only [callS,e1,e2,<- hof,e3,Bool.and_self,cond_true,e4,e5,e6,Option.bind_some,p.spOk,e7]
     rw [show Nat.beq (u a (onlyF (memN ids) 0 h)).length h'.length = true by rw [hof,hl']; exact Nat.beq_refl _]; rfl
    ·rw [qkr _ _ _ _ hl,qkr _ _ _ _ hl',Nat.zero_add,if_pos (show memN ids i = true from hf),if_pos (show memN ids i = true from hf),hof]
   ·rw [<- hof]
    split at he
    ·rename_i p hp
     split at he
     ·rename_i hg
      obtain ⟨hi,he⟩:=qc he
      have hi':=hi
      simp only [Bool.and_eq_true] at hi'
      cases he
      have hg' : getO h' (ids.headD 0) = .none:=by rw [<- ha.get _ hi'.1,hg]
      refine ⟨(qP p.1 h').set (ids.headD 0) p.2,?_,fun i hf=>qdP (by rw [qaK,qaK]; exact ha.len rfl) (qeO p.1 (ha.len rfl) i (ha.get i hf))⟩
      simp only [hg',<- ha.len rfl,hi,cond_true]
     ·cases he
    ·split at he
     ·rename_i p hp
      obtain ⟨hi,he⟩:=qc he
      cases he
      exact ⟨h'.set p.2.2.1 p.2.2.2,by simp only [hi,cond_true],fun i hf=>qdP (ha.len rfl) (ha.get i hf)⟩
     ·cases he
  | true =>
  rw [hS,cond_true] at he
  rw [qeP o] at he
  obtain ⟨⟨u,ss,mk⟩,h1,he⟩:=Option.bind_eq_some_iff.1 he
  cases mk with
  | some x=>cases he
  | none =>
   simp only at he
   obtain ⟨hi,he⟩:=qc he
   cases he
   refine ⟨qP ss h',?_,fun i hf=>qeO ss (ha.len rfl) i (ha.get i hf)⟩
   rw [cond_true,qeP o,<- qjB (ha.len rfl) ha.get,h1]
   simp only [Option.bind_some,hi,cond_true]
 | new id =>
  simp only [evM] at he ⊢
  cases hS : isS o with
  | true =>
   rw [hS,cond_true,qeP o] at he
   obtain ⟨⟨u,ss,mk⟩,h1,he⟩:=Option.bind_eq_some_iff.1 he
   cases ss with
   | cons p ss=>cases he
   | nil =>
    cases mk with
    | none=>cases he
    | some x =>
     simp only at he
     cases hg : getO h id with
     | none =>
      rw [hg] at he
      simp only at he
      obtain ⟨hlt,he⟩:=qc he
      cases he
      have hg' : getO h' id = .none:=by rw [<- ha.get id rfl,hg]
      refine ⟨h'.set id x,?_,fun i hf=>?_⟩
      ·rw [cond_true,qeP o,h1]
       simp only [Option.bind_some,hg',<- ha.len rfl,hlt,cond_true]
      ·exact qdP (ha.len rfl) (ha.get i hf)
     | cells vs=>rw [hg] at he; cases he
     | nst _ _ _=>rw [hg] at he; cases he
     | kds _ _ _ _ _=>rw [hg] at he; cases he
     | gone=>rw [hg] at he; cases he
     | oth fz q d=>rw [hg] at he; cases he
     | row fz ver e s xs=>rw [hg] at he; cases he
  | false =>
   rw [hS,cond_false] at he
   rw [cond_false]
   split at he
   ·rename_i f args hc
    rw [qix] at he
    obtain ⟨x,h1,he⟩:=Option.bind_eq_some_iff.1 he
    cases hg : getO h id with
    | none =>
     rw [hg] at he
     simp only at he
     obtain ⟨hlt,he⟩:=qc he
     cases he
     have hg' : getO h' id = .none:=by rw [<- ha.get id rfl,hg]
     refine ⟨h'.set id x,?_,fun i hf=>?_⟩
     ·rw [qix,h1]
      simp only [Option.bind_some,hg',<- ha.len rfl,hlt,cond_true]
     ·exact qdP (ha.len rfl) (ha.get i hf)
    | cells vs=>rw [hg] at he; cases he
    | nst _ _ _=>rw [hg] at he; cases he
    | kds _ _ _ _ _=>rw [hg] at he; cases he
    | gone=>rw [hg] at he; cases he
    | oth fz q d=>rw [hg] at he; cases he
    | row fz ver e s xs=>rw [hg] at he; cases he
   ·cases he
 | full =>
  have : h = h':=qkF (ha.len rfl) fun i=>ha.get i trivial
  subst this
  exact ⟨H,he,fun _ _=>rfl⟩
theorem qkt {a b : List Nat} (hd : disj a b = true) {i : Nat} (ha : memN a i = true) (hb : memN b i = true) : False:=by
 unfold memN at ha
 obtain ⟨x,hx,he⟩:=List.any_eq_true.1 ha
 have he:=Nat.eq_of_beq_eq_true he
 subst he
 have:=List.all_eq_true.1 hd i hx
 simp [hb] at this
theorem qwQ {a b : Md} (hm : mdOk a b = true) : (∀ i,a.foot i -> ¬ b.sees i) /\ (∀ i,b.foot i -> ¬ a.sees i) /\ (a.isFull = true -> b.isPure = true) /\ (b.isFull = true -> a.isPure = true):=by
 have hne : ∀ {ids : List Nat} {j : Nat},(!memN ids j) = true -> memN ids j = true -> False:=fun {ids j} h1 h2=>by simp [h2] at h1
 cases a <;> cases b <;> simp only [mdOk,Bool.and_eq_true,Bool.false_eq_true] at hm <;>
  refine ⟨fun i hf hs=>?_,fun i hf hs=>?_,fun hh=>?_,fun hh=>?_⟩ <;>
  simp only [Md.foot,Md.sees,Md.isFull,Md.isPure,Bool.false_eq_true] at * <;>
  first
   | (subst hf; subst hs; simp at hm; done)
   | (subst hf; exact hne hm hs)
   | (subst hs; exact hne hm hf)
   | exact qkt hm hf hs
   | exact qkt hm hs hf
   | exact qkt hm.1 hf hs
   | exact qkt hm.1 hs hf
end
end Go.Abs
namespace Go.Abs
section
variable {ρ : Type} {C : Ctx} {all : List Oper}
abbrev S:=(Nat -> V) × List O
def upd (dst : Option Tmp) (v : V) (t : Nat -> V) : Nat -> V :=
 match dst with
 | none=>t
 | some d=>fun i=>bif Nat.beq d i then v else t i
def okDst (n : Nat) : Option Tmp -> Bool
 | none=>true
 | some d=>Nat.blt d n
def actA (C : Ctx) (all : List Oper) (o : Oper) (md : Md) (t : Nat -> V) (h : List O) : Option (V × List O) :=
 match o.guard with
 | none=>evM C o.op t h md two
 | some (j,want) =>
  match dstOf all j with
  | none=>none
  | some d =>
   match t d with
   | .bool b=>if b = want then evM C o.op t h md two else some (.undef,h)
   | .undef=>some (.undef,h)
   | _=>none
def stepA (C : Ctx) (all : List Oper) (x : Oper × Md) (s : S) : Option S :=
 bif okDst C.n x.1.dst then (actA C all x.1 x.2 s.1 s.2).map fun p=>(upd x.1.dst p.1 s.1,p.2) else none
def runA (C : Ctx) (all : List Oper) : List (Oper × Md) -> S -> Option S
 | [],s=>some s
 | x :: r,s=>(stepA C all x s).bind (runA C all r)
def zipM : List Oper -> List Md -> List (Oper × Md)
 | [],_=>[]
 | o :: r,mds=>(o,mds.headD .full) :: zipM r mds.tail
theorem qsn (d : Nat) (v : V) (t : Slots) : look ((d,v) :: t) = upd (some d) v (look t):=rfl
theorem upd_same {t : Nat -> V} {d : Nat} {v : V} (h : t d = v) : upd (some d) v t = t:=by
 funext i
 simp only [upd]
 cases hb : Nat.beq d i with
 | false=>rfl
 | true=>have:=Nat.eq_of_beq_eq_true hb; subst this; exact h.symm
theorem qqn {n : Nat} {dst : Option Tmp} {v : V} {t : Slots} {K : Slots -> Option ρ} {res : ρ} (h : putD n dst v t K = some res) : okDst n dst = true /\ ∃ t',look t' = upd dst v (look t) /\ K t' = some res:=by
 cases dst with
 | none=>exact ⟨rfl,t,rfl,h⟩
 | some d =>
  simp only [putD] at h
  obtain ⟨h1,h2⟩:=qc h
  exact ⟨h1,_,qsn d v t,h2⟩
theorem qiF : (r : List Oper) -> (mds : List Md) -> (t : Slots) -> (h : List O) -> (K : Slots -> List O -> Option ρ) -> {res : ρ} -> opsK C all r mds t h K = some res ->
  ∃ t' h',runA C all (zipM r mds) (look t,h) = some (look t',h') /\ K t' h' = some res
 | [],mds,t,h,K,res,hk=>⟨t,h,rfl,hk⟩
 | o :: r,mds,t,h,K,res,hk=>by
  have fin : ∀ {v : V} {t1 : Slots} {H : List O},look t1 = look t -> actA C all o (mds.headD .full) (look t) h = some (v,H) ->
    putD C.n o.dst v t1 (fun t=>opsK C all r mds.tail t H K) = some res -> ∃ t' h',runA C all (zipM (o :: r) mds) (look t,h) = some (look t',h') /\ K t' h' = some res:=by
   intro v t1 H e1 e2 e3
   obtain ⟨h1,t2,h2,h3⟩:=qqn e3
   obtain ⟨t3,h4,h5,h6⟩:=qiF r mds.tail t2 H K h3
   refine ⟨t3,h4,?_,h6⟩
   simp only [zipM,runA,stepA,h1,cond_true,e2,Option.map_some,Option.bind_some]
   rw [<- e1,<- h2]; exact h5
  have evd : ∀ {t1 : Slots},look t1 = look t -> evM C o.op (look t1) h (mds.headD .full) (fun v h=>putD C.n o.dst v t1 fun t=>opsK C all r mds.tail t h K) = some res ->
    ∃ v H,evM C o.op (look t) h (mds.headD .full) two = some (v,H) /\ putD C.n o.dst v t1 (fun t=>opsK C all r mds.tail t H K) = some res:=by
   intro t1 e1 e2
   rw [qAa] at e2
   obtain ⟨⟨v,H⟩,h1,h2⟩:=Option.bind_eq_some_iff.1 e2
   rw [e1] at h1
   exact ⟨v,H,h1,h2⟩
  simp only [opsK] at hk
  cases hg : o.guard with
  | none =>
   rw [hg] at hk
   simp only at hk
   obtain ⟨v,H,h1,h2⟩:=evd rfl hk
   exact fin rfl (by simp only [actA,hg]; exact h1) h2
  | some gw =>
   obtain ⟨j,want⟩:=gw
   rw [hg] at hk
   simp only at hk
   cases hd : dstOf all j with
   | none=>rw [hd] at hk; cases hk
   | some d =>
    rw [hd] at hk
    simp only at hk
    cases ht : look t d with
    | bool b =>
     rw [ht] at hk
     simp only at hk
     have hup : look ((d,.bool b) :: t) = look t:=by rw [qsn,upd_same ht]
     cases b with
     | true =>
      simp only [cond_true] at hk
      cases want with
      | true =>
       simp only [cond_true] at hk
       obtain ⟨v,H,h1,h2⟩:=evd hup hk
       exact fin hup (by simp only [actA,hg,hd,ht,if_true]; exact h1) h2
      | false =>
       simp only [cond_false] at hk
       exact fin hup (by simp [actA,hg,hd,ht]) hk
     | false =>
      simp only [cond_false] at hk
      cases want with
      | true =>
       simp only [cond_true] at hk
       exact fin hup (by simp [actA,hg,hd,ht]) hk
      | false =>
       simp only [cond_false] at hk
       obtain ⟨v,H,h1,h2⟩:=evd hup hk
       exact fin hup (by simp only [actA,hg,hd,ht,if_true]; exact h1) h2
    | undef =>
     rw [ht] at hk
     exact fin rfl (by simp [actA,hg,hd,ht]) hk
    | _=>rw [ht] at hk; cases hk
theorem qiR {o : Oper} {md : Md} {t t' : Nat -> V} {h : List O} (hs : ∀ i ∈ reads all o,t i = t' i) : actA C all o md t h = actA C all o md t' h:=by
 have h1 : Same t t' o.op:=fun i hi=>hs i (List.mem_append_right _ hi)
 have h2:=qxr (C:=C) (h:=h) h1 md two
 unfold actA
 cases hg : o.guard with
 | none=>exact h2
 | some gw =>
  obtain ⟨j,want⟩:=gw
  simp only
  cases hd : dstOf all j with
  | none=>rfl
  | some d =>
   have:=hs d (List.mem_append_left _ (by simp [quS,hg,hd]))
   simp only [this,h2]
theorem qnH {md : Md} {i : Nat} (h : md.foot i) : md.sees i:=by
 cases md <;> simp_all [Md.foot,Md.sees]
theorem qkR {o : Oper} {md : Md} {t : Nat -> V} {h : List O} {v : V} {H : List O} (he : actA C all o md t h = some (v,H)) : (∀ i,¬ md.foot i -> getO H i = getO h i) /\ (md.isFull = false -> H.length = h.length):=by
 unfold actA at he
 split at he
 ·exact qva he
 ·split at he
  ·cases he
  ·split at he
   ·split at he
    ·exact qva he
    ·cases he; exact ⟨fun _ _=>rfl,fun _=>rfl⟩
   ·cases he; exact ⟨fun _ _=>rfl,fun _=>rfl⟩
   ·cases he
theorem qvk {o : Oper} {md : Md} {t : Nat -> V} {h h' : List O} {v : V} {H : List O} (ha : Agree md h h') (he : actA C all o md t h = some (v,H)) :
  ∃ H',actA C all o md t h' = some (v,H') /\ ∀ i,md.foot i -> getO H i = getO H' i:=by
 unfold actA at he ⊢
 split at he
 ·exact qxq ha he
 ·split at he
  ·cases he
  ·split at he
   ·split at he
    ·rename_i hb; subst hb
     simp only [if_true]
     exact qxq ha he
    ·rename_i hb
     cases he; exact ⟨h',by simp [hb],fun i hf=>ha.get i (qnH hf)⟩
   ·cases he; exact ⟨h',rfl,fun i hf=>ha.get i (qnH hf)⟩
   ·cases he
theorem qmy {l : List Nat} {i : Nat} : memN l i = true ↔ i ∈ l:=by
 unfold memN
 rw [List.any_eq_true]
 exact ⟨fun ⟨x,h1,h2⟩=>by rw [Nat.eq_of_beq_eq_true h2]; exact h1,fun h=>⟨i,h,Nat.beq_refl i⟩⟩
theorem qjS {dst : Option Tmp} {l : List Nat} (h : notIn dst l = true) {v : V} {t : Nat -> V} : ∀ i ∈ l,t i = upd dst v t i:=by
 intro i hi
 cases dst with
 | none=>rfl
 | some d =>
  simp only [upd]
  cases hb : Nat.beq d i with
  | false=>rfl
  | true =>
   have:=Nat.eq_of_beq_eq_true hb; subst this
   simp only [notIn,qmy.2 hi] at h; cases h
theorem qun {a b : Option Tmp} (h : qwe a b = true) {u v : V} {t : Nat -> V} : upd a u (upd b v t) = upd b v (upd a u t):=by
 cases a with
 | none=>rfl
 | some x =>
  cases b with
  | none=>rfl
  | some y =>
   funext i
   simp only [upd]
   cases hx : Nat.beq x i with
   | false=>rfl
   | true =>
    cases hy : Nat.beq y i with
    | false=>rfl
    | true =>
     have e1:=Nat.eq_of_beq_eq_true hx; have e2:=Nat.eq_of_beq_eq_true hy
     subst e1; subst e2
     simp [qwe,Nat.beq_refl] at h
theorem qgH {x : Oper × Md} {s s' : S} (h : stepA C all x s = some s') : okDst C.n x.1.dst = true /\ ∃ v H,actA C all x.1 x.2 s.1 s.2 = some (v,H) /\ s' = (upd x.1.dst v s.1,H):=by
 unfold stepA at h
 obtain ⟨h1,h2⟩:=qc h
 obtain ⟨⟨v,H⟩,h3,h4⟩:=Option.map_eq_some_iff.1 h2
 exact ⟨h1,v,H,h3,h4.symm⟩
theorem qpB {k v : Sh} {x : k.den} {es : Ents k v} {e : Int × (k.den × v.den)} : entOf k v x (es ++ [e]) = match entOf k v x es with | some r=>some r | none=>bif eqD k x e.2.1 then some e else none:=by
 induction es with
 | nil=>rfl
 | cons f r ih =>
  simp only [List.cons_append,entOf]
  cases eqD k x f.2.1 with
  | true=>rfl
  | false=>simp only [cond_false]; exact ih
theorem qqS {x y : Oper × Md} (hsw : qtU x.1 x.2 y.1 y.2 = true) {t : Nat -> V} {h H1 H2 : List O} {va vb : V} (e1 : actA C all x.1 x.2 t h = some (va,H1)) (e2 : actA C all y.1 y.2 t H1 = some (vb,H2)) :
  actA C all y.1 y.2 t h = some (vb,H2) /\ actA C all x.1 x.2 t H2 = some (va,H2):=by
 obtain ⟨a,ma⟩:=x
 obtain ⟨b,mb⟩:=y
 unfold qtU at hsw
 simp only at hsw e1 e2 ⊢
 split at hsw
 case h_2=>cases hsw
 rename_i ty m k hop
 split at hsw
 ·cases hsw
 rename_i hga
 split at hsw
 case h_2=>cases hsw
 rename_i ty' m' k' hop'
 split at hsw
 ·cases hsw
 rename_i hgb
 split at hsw
 case h_2=>cases hsw
 rename_i ids
 split at hsw
 case h_2=>cases hsw
 rename_i ids'
 unfold actA at e1 e2 ⊢
 rw [hga] at e1 ⊢
 rw [hgb] at e2 ⊢
 simp only [evM,hop,hop',evR,isS,cond_true,evS] at e1 e2 ⊢
 have hH1 : h = H1:=by
  split at e1
  ·rw [qlO] at e1
   obtain ⟨v,-,e⟩:=Option.bind_eq_some_iff.1 e1
   cases e; rfl
  ·rw [qnp] at e1
   obtain ⟨v,-,e⟩:=Option.bind_eq_some_iff.1 e1
   cases e; rfl
 subst hH1
 refine ⟨e2,?_⟩
 unfold qgU at e2; cases e2
theorem qvp {x y : Oper × Md} (hsw : qrB all x.1 x.2 y.1 y.2 = true) {s s1 s2 : S} (h1 : stepA C all x s = some s1) (h2 : stepA C all y s1 = some s2) :
  ∃ s1',stepA C all y s = some s1' /\ stepA C all x s1' = some s2:=by
 simp only [qrB,Bool.and_eq_true] at hsw
 obtain ⟨⟨⟨hu,hxy⟩,hyx⟩,hm⟩:=hsw
 rw [Bool.or_eq_true] at hm
 rcases hm with hm | hm
 case inr =>
  obtain ⟨o1,va,H1,e1,rfl⟩:=qgH h1
  obtain ⟨o2,vb,H2,e2,rfl⟩:=qgH h2
  simp only at e2
  rw [<- qiR (qjS hxy)] at e2
  obtain ⟨e3,e4⟩:=qqS hm e1 e2
  refine ⟨(upd y.1.dst vb s.1,H2),?_,?_⟩
  ·simp only [stepA,o2,cond_true,e3,Option.map_some]
  ·rw [qiR (qjS hyx (v:=vb))] at e4
   simp only [stepA,o1,cond_true,e4,Option.map_some,qun hu]
 obtain ⟨m1,m2,m3,m4⟩:=qwQ hm
 obtain ⟨o1,va,H1,e1,rfl⟩:=qgH h1
 obtain ⟨o2,vb,H2,e2,rfl⟩:=qgH h2
 simp only at e2
 rw [<- qiR (qjS hxy)] at e2
 obtain ⟨f1,l1⟩:=qkR e1
 obtain ⟨f2,l2⟩:=qkR e2
 have full_of : ∀ {md : Md},md.isPure = false -> md.isFull = true \/ md.isFull = false:=fun {md} _=>by cases md.isFull <;> simp
 have pf : ∀ {md : Md},md.isPure = true -> ∀ i,¬ md.foot i:=fun {md} hp i=>by cases md <;> simp_all [Md.isPure,Md.foot]
 have pnf : ∀ {md : Md},md.isPure = true -> md.isFull = false:=fun {md} hp=>by cases md <;> simp_all [Md.isPure,Md.isFull]
 have nfull : ∀ {md md' : Md},(md.isFull = true -> md'.isPure = true) -> md'.isPure = false -> md.isFull = false:=fun {md md'} hh hp=>by
  cases hf : md.isFull with
  | false=>rfl
  | true=>rw [hh hf] at hp; cases hp
 have ag1 : Agree y.2 H1 s.2:=⟨fun hp=>l1 (nfull m3 hp),fun i hs=>f1 i fun hf=>m1 i hf hs⟩
 obtain ⟨H1',e3,g3⟩:=qvk ag1 e2
 obtain ⟨f3,l3⟩:=qkR e3
 have ag2 : Agree x.2 s.2 H1':=⟨fun hp=>(l3 (nfull m4 hp)).symm,fun i hs=>(f3 i fun hf=>m2 i hf hs).symm⟩
 obtain ⟨H2',e4,g4⟩:=qvk ag2 e1
 obtain ⟨f4,l4⟩:=qkR e4
 have hH : H2 = H2':=by
  apply qkF
  ·cases hx : x.2.isFull with
   | true =>
    have hp:=m3 hx
    have h12 : H2.length = H1.length:=l2 (pnf hp)
    have hs1 : s.2 = H1':=(qkF (l3 (pnf hp)) fun i=>f3 i (pf hp i)).symm
    rw [<- hs1,e1] at e4
    cases e4
    exact h12
   | false =>
    cases hy : y.2.isFull with
    | true =>
     have hp:=m4 hy
     have hs1 : H1 = s.2:=qkF (l1 hx) fun i=>f1 i (pf hp i)
     rw [hs1,e3] at e2
     cases e2
     exact (l4 hx).symm
    | false=>rw [l2 hy,l1 hx,l4 hx,l3 hy]
  ·intro i
   by_cases hx : x.2.foot i
   ·rw [f2 i fun hf=>m1 i hx (qnH hf),g4 i hx]
   ·by_cases hy : y.2.foot i
    ·rw [g3 i hy,f4 i hx]
    ·rw [f2 i hy,f1 i hx,f4 i hx,f3 i hy]
 subst hH
 refine ⟨(upd y.1.dst vb s.1,H1'),?_,?_⟩
 ·simp only [stepA,o2,cond_true,e3,Option.map_some]
 ·rw [qiR (qjS hyx (v:=vb))] at e4
  simp only [stepA,o1,cond_true,e4,Option.map_some,qun hu]
theorem qnG : (pre : List (Oper × Md)) -> {x : Oper × Md} -> {post : List (Oper × Md)} -> (∀ p ∈ pre,qrB all p.1 p.2 x.1 x.2 = true) -> {s s' : S} ->
  runA C all (pre ++ x :: post) s = some s' -> ∃ s1,stepA C all x s = some s1 /\ runA C all (pre ++ post) s1 = some s'
 | [],x,post,hp,s,s',h=>by
  obtain ⟨s1,h1,h2⟩:=Option.bind_eq_some_iff.1 h
  exact ⟨s1,h1,h2⟩
 | p :: pre,x,post,hp,s,s',h=>by
  obtain ⟨s1,h1,h2⟩:=Option.bind_eq_some_iff.1 h
  obtain ⟨s2,h3,h4⟩:=qnG pre (fun q hq=>hp q (by simp [hq])) h2
  obtain ⟨s1',h5,h6⟩:=qvp (hp p (by simp)) h1 h3
  refine ⟨s1',h5,?_⟩
  simp only [List.cons_append,runA,h6,Option.bind_some]
  exact h4
end
end Go.Abs
