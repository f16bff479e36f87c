import Derived.WalkKit
noncomputable section
namespace Go.Abs
abbrev zA:=@Bool.and_eq_true
abbrev zB:=@Nat.eq_of_beq_eq_true
abbrev zC:=@List.forall_mem_nil
abbrev zD:=@Option.some.injEq
abbrev zG:=@List.forall_mem_cons
abbrev zH:=@Nat.le_of_ble_eq_true
abbrev zI:=@Array.getElem?_eq_some_iff
abbrev zJ:=@if_pos
abbrev zK:=@List.getD_eq_getElem?_getD
abbrev zL:=@if_neg
abbrev zM:=@Nat.lt_of_lt_of_le
abbrev zN:=@Prod.mk.injEq
abbrev zO:=@beq_false_of_ne
abbrev zP:=@Array.getD_eq_getD_getElem?
abbrev zQ:=@decide_eq_true_eq
abbrev zR:=@Option.bind_eq_some_iff
abbrev zS:=@List.getElem?_eq_some_iff
abbrev zT:=@Bool.not_eq_true'
abbrev zU:=@List.mem_append
abbrev zV:=@of_decide_eq_true
abbrev zW:=@List.getElem?_eq_getElem
abbrev zX:=@List.getElem?_eq_none
abbrev zY:=@List.eq_nil_of_length_eq_zero
abbrev zZ:=@List.nodup_cons
abbrev za:=@List.nodup_append
abbrev zb:=@List.mem_cons_of_mem
abbrev zc:=@List.mem_filter
abbrev zd:=@Array.getElem?_eq_getElem
abbrev zf:=@List.mem_append_right
abbrev zg:=@List.mem_range
abbrev zh:=@List.mem_of_getElem?
abbrev zi:=@List.mem_cons
abbrev zj:=@List.append_assoc
abbrev zk:=@Array.getElem?_setIfInBounds
abbrev zl:=@List.getElem?_append_left
abbrev zm:=@List.all_eq_true
abbrev zn:=@Nat.le_trans
abbrev zo:=@List.mem_append_left
abbrev zp:=@Array.getElem?_toList
abbrev zq:=@List.length_append
abbrev zr:=@List.mem_map
abbrev zt:=@List.getElem?_take
abbrev zu:=@List.getElem?_append_right
abbrev zw:=@Option.map_eq_some_iff
abbrev zx:=@Bool.or_eq_true
abbrev zy:=@Nat.mul_le_mul_right
abbrev zz:=@List.cons.injEq
abbrev zAA:=@List.pairwise_cons
abbrev zAB:=@List.getElem?_drop
abbrev zAC:=@Bool.false_eq_true
abbrev zAD:=@Nat.ne_of_beq_eq_false
abbrev zAE:=@Nat.zero_le
abbrev zAF:=@Nat.add_assoc
abbrev zAG:=@List.mem_singleton
abbrev zAH:=@List.mem_cons_self
abbrev zAI:=@List.length_drop
abbrev zAJ:=@Bool.eq_false_iff
abbrev zAK:=@List.filter_cons_of_pos
abbrev zAL:=@List.filter_append
abbrev zAM:=@Nat.succ_mul
abbrev zAN:=@List.length_take
abbrev zAO:=@Nat.lt_or_ge
abbrev zAP:=@List.length_filter_le
abbrev zAQ:=@List.filter_cons_of_neg
abbrev zAR:=@List.take_length
abbrev zAS:=@List.length_map
abbrev zAT:=@Array.toList_push
abbrev zAU:=@List.mem_of_mem_take
abbrev zAV:=@List.filter_eq_nil_iff
abbrev zAW:=@Nat.lt_succ_iff_lt_or_eq
abbrev zAX:=@List.filter_eq_self
abbrev zAY:=@List.ext_getElem?
abbrev zAZ:=@beq_self_eq_true
abbrev zAa:=@List.filter_cons
abbrev zAb:=@List.getElem?_map
abbrev zAc:=@List.getElem?_set
abbrev zAd:=@Nat.not_lt_zero
abbrev zAe:=@List.take_append_drop
abbrev zAf:=@List.filterMap_append
abbrev zAg:=@Classical.choose_spec
abbrev zAh:=@Array.getElem?_replicate
abbrev zAi:=@decide_eq_false
abbrev zAj:=@Option.some.inj
abbrev zAk:=@List.length_pos_iff
abbrev zAl:=@List.take_of_length_le
abbrev zAm:=@List.drop_of_length_le
abbrev zAn:=@Nat.ble_eq_true_of_le
abbrev zAo:=@Int.add_zero
abbrev zAp:=@Array.mem_of_getElem?
abbrev zAq:=@List.pairwise_iff_getElem
abbrev zAr:=@List.map_append
abbrev zAs:=@List.getElem_of_mem
abbrev zAt:=@Array.length_toList
abbrev zAu:=@List.getElem_mem
abbrev zAv:=@List.filterMap_nil
abbrev zAw:=@List.eraseIdx_sublist
abbrev zAx:=@List.pairwise_map
abbrev zAy:=@List.mem_of_mem_drop
abbrev zAz:=@List.getElem?_set_ne
abbrev zBA:=@Array.toList_extract
abbrev zBB:=@List.drop_eq_getElem_cons
abbrev zBC:=@Nat.le_of_not_lt
abbrev zBD:=@List.length_reverse
abbrev zBE:=@Int.le_refl
abbrev zBF:=@bne_iff_ne
abbrev zBG:=@Int.zero_add
abbrev zBH:=@Nat.min_eq_left
abbrev zBI:=@Nat.eq_zero_or_pos
abbrev zBJ:=@Nat.add_sub_cancel
abbrev zBK:=@List.length_set
abbrev zBL:=@List.length_eq_zero_iff
abbrev zBM:=@List.takeWhile_append_dropWhile
abbrev zBN:=@List.length_range
abbrev zBO:=@Nat.add_comm
abbrev zBP:=@List.length_singleton
abbrev zBQ:=@Option.getD_some
abbrev zBR:=@List.length_dropLast
abbrev zBS:=@List.takeWhile_cons_of_pos
abbrev zBT:=@List.takeWhile_cons_of_neg
abbrev zBU:=@Array.getElem?_append_left
abbrev zBV:=@List.mem_filterMap
abbrev zBW:=@Array.all_eq_true'
abbrev zBX:=@List.nodup_nil
abbrev zBY:=@List.extract_eq_take_drop
abbrev zBZ:=@List.flatten_cons
abbrev zBa:=@List.filterMap_cons_some
abbrev zBb:=@List.filterMap_cons_none
abbrev zBc:=@Nat.le_succ
abbrev zBd:=@Nat.add_mul
abbrev zBe:=@List.eraseIdx_cons_succ
abbrev zBf:=@Nat.lt_succ_self
abbrev zBg:=@Nat.le_add_right
abbrev zBh:=@List.drop_append
abbrev zBi:=@List.any_eq_true
abbrev zBj:=@Nat.testBit_lt_two_pow
abbrev zBk:=@List.range_succ_eq_map
abbrev zBl:=@List.length_eq_one_iff
abbrev zBm:=@Int.zero_mul
abbrev zBn:=@Nat.pow_le_pow_right
abbrev zBo:=@List.pairwise_append
abbrev zBp:=@List.getElem?_append
abbrev zBq:=@Array.replicate_zero
abbrev zBr:=@Array.replicate_succ
abbrev zBs:=@List.drop_drop
abbrev zBt:=@Nat.testBit_two_pow
abbrev zBu:=@Nat.mul_le_mul_left
abbrev zBv:=@List.filterMap_cons
abbrev zBw:=@List.append_toArray
abbrev zBx:=@Int.toNat_of_nonneg
abbrev zBy:=@Int.mul_add
abbrev zBz:=@of_decide_eq_false
abbrev zCA:=@Nat.lt_of_le_of_lt
abbrev zCB:=@List.getElem_range
abbrev zCC:=@List.filter_filter
abbrev zCD:=@List.filterMap_map
abbrev zCE:=@Nat.lt_trichotomy
abbrev zCF:=@Nat.lt_succ_of_lt
abbrev zCG:=@List.push_toArray
abbrev zCH:=@List.map_set
abbrev zCI:=@Array.eq_empty_of_size_eq_zero
abbrev zCJ:=@Nat.min_eq_right
abbrev zCK:=@List.take_append
abbrev zCL:=@List.isEmpty_iff
abbrev zCM:=@Bool.not_eq_true
abbrev zCN:=@Array.toList_map
abbrev zCO:=@List.mem_zipIdx_iff_getElem?
abbrev zCP:=@Nat.testBit_two_pow_mul_add
abbrev zCQ:=@Nat.min_def
abbrev zCR:=@List.range_succ
abbrev zCS:=@Int.one_mul
abbrev zCT:=@Int.fdiv_eq_ediv_of_nonneg
abbrev zCU:=@List.forIn_nil
abbrev zCV:=@List.drop_take
abbrev zCW:=@List.drop_left
abbrev zCX:=@Nat.mod_lt
abbrev zCY:=@List.getElem?_replicate
inductive Sh where
 | int (k:IntKind)
 | bool
 | unit
 | pair (a b:Sh)
 | sl (s:Sh)
 deriving DecidableEq
@[reducible] def Sh.den:Sh->Type
 | .int _=>Int
 | .bool=>Bool
 | .unit=>Unit
 | .pair a b=>a.den×b.den
 | .sl s=>List s.den
def Sh.n:Sh->Nat
 | .int _=>1
 | .bool=>1
 | .unit=>0
 | .pair a b=>a.n+b.n
 | .sl _=>1
def Sh.isAgg:Sh->Bool
 | .pair _ _=>true
 | .unit=>true
 | _=>false
def Sh.zero:(s:Sh)->s.den
 | .int _=>(0:Int)
 | .bool=>false
 | .unit=>()
 | .pair a b=>(a.zero,b.zero)
 | .sl _=>[]
def nth{α:Type}(z:α)(xs:List α)(i:Nat):α:=xs.getD i z
inductive Nl where
 | ptr
 | map
 | ifc
 deriving DecidableEq
def Nl.val:Nl->Value
 | .ptr=>.pointer none
 | .map=>.map none
 | .ifc=>.nilIface
inductive V where
 | bad
 | undef
 | nl (k:Nl)
 | ifc (ty:TypeId) (v:V)
 | int (k:IntKind) (n:Int)
 | bool (b:Bool)
 | nlt (neg e:Bool)
 | nil
 | sl (s:Sh) (xs:List s.den)
 | slc (o ver:Nat)
 | ptr (o off:Nat)
 | rptr (o ver i off:Nat)
 | tl (o ver a:Nat)
 | fptr (s:Sh) (x:s.den)
 | pptr (s:Sh) (x:s.den)
 | yld (l:Nat)
 | clo (f:Nat) (caps:List V)
 | agg (vs:List V)
 | tup (vs:List V)
structure Oth where
 it:Bool
 kt:TypeId
 et:TypeId
 k:Sh
 v:Sh
 un:Bool
 deriving DecidableEq
@[reducible] def Oth.sh (q:Oth):Sh:=.pair (.int .i64) (.sl (.pair (.int .i64) (.pair q.k q.v)))
inductive Kid where
 | map (q:Oth)
 | row (e:TypeId) (s:Sh)
 deriving DecidableEq
@[reducible] def Kid.sh:Kid->Sh
 | .map q=>q.sh
 | .row _ s=>.sl s
structure Nst where
 it:Bool
 kt:TypeId
 et:TypeId
 k:Sh
 kd:Kid
 deriving DecidableEq
@[reducible] def Nst.sh (q:Nst):Sh:=.pair (.int .i64) (.sl (.pair (.int .i64) (.pair q.k q.kd.sh)))
inductive Kt where
 | row (e:TypeId) (s:Sh)
 | dat (s:Sh)
 | pair (a b:Kt)
 | krow (e:TypeId) (t:Kt)
 | map (q:Oth)
 | box (e:TypeId) (t:Kt)
 deriving DecidableEq
@[reducible] def Kt.sh:Kt->Sh
 | .row _ s=>.sl s
 | .dat s=>s
 | .pair a b=>.pair a.sh b.sh
 | .krow _ t=>.sl t.sh
 | .map q=>q.sh
 | .box _ t=>.pair .bool t.sh
def Kt.n:Kt->Nat
 | .dat s=>s.n
 | .pair a b=>a.n+b.n
 | _=>1
def Kt.isPl:Kt->Bool
 | .row _ _=>true
 | .dat _=>true
 | .pair a b=>a.isPl&&b.isPl
 | .krow _ t=>t.isPl
 | _=>false
def Kt.z:(t:Kt)->t.sh.den
 | .map _=>(-1,[])
 | t=>t.sh.zero
def Kt.lost:(t:Kt)->Option t.sh.den
 | .map _=>some (-1,[])
 | .box _ t=>some (false,t.sh.zero)
 | _=>none
inductive Kp where
 | map (kt et:TypeId) (k:Sh)
 | row (e:TypeId)
 deriving DecidableEq
@[reducible] def Kp.sh (t:Kt):Kp->Sh
 | .map _ _ k=>.pair (.int .i64) (.sl (.pair (.int .i64) (.pair k t.sh)))
 | .row _=>.sl t.sh
@[reducible] def Kp.ix:Kp->Sh
 | .map _ _ k=>k
 | .row _=>.int .i64
def Kp.isMap:Kp->Bool
 | .map _ _ _=>true
 | .row _=>false
inductive O where
 | none
 | cells (vs:List V)
 | row (fz:Bool) (ver:Nat) (e:TypeId) (s:Sh) (xs:List s.den)
 | oth (fz:Bool) (q:Oth) (d:q.sh.den)
 | nst (ver:Nat) (q:Nst) (d:q.sh.den)
 | kds (ver:Nat) (p:Kp) (t:Kt) (hl:Option (p.ix.den×V)) (d:(p.sh t).den)
 | gone
def hmap{α:Type}(f:V->V):Option (α×V)->Option (α×V)
 | none=>none
 | some x=>some (x.1,f x.2)
def encL:(s:Sh)->s.den->List V
 | .int k,n=>[.int k n]
 | .bool,b=>[.bool b]
 | .unit,_=>[]
 | .pair a b,x=>encL a x.1++encL b x.2
 | .sl s,xs=>[.sl s xs]
def enc:(s:Sh)->s.den->V
 | .int k,n=>.int k n
 | .bool,b=>.bool b
 | .unit,_=>.agg []
 | .pair a b,x=>.agg (encL a x.1++encL b x.2)
 | .sl s,xs=>.sl s xs
def V.cells:V->List V
 | .agg vs=>vs
 | v=>[v]
def V.okStore:V->Bool
 | .bad=>false
 | .undef=>false
 | .tup _=>false
 | _=>true
def qbn{s s':Sh}(x:s.den):Option s'.den:=
 if h:s=s' then some (h▸x) else none
def getO(h:List O)(o:Nat):O:=h.getD o .none
def decSl(h:List O)(s:Sh):V->Option (List s.den)
 | .nil=>some []
 | .sl s' xs=>qbn (s:=.sl s') (s':=.sl s) xs
 | .slc o ver=>
  match getO h o with
  | .row _ ver' _ s' xs=>bif Nat.beq ver ver' then qbn (s:=.sl s') (s':=.sl s) xs else none
  | _=>none
 | _=>none
def dec(h:List O):(s:Sh)->List V->Option (s.den×List V)
 | .int k,vs=>
  match vs with
  | .int k' n :: r=>if k=k' then some (n,r) else none
  | _=>none
 | .bool,vs=>
  match vs with
  | .bool b :: r=>some (b,r)
  | _=>none
 | .unit,r=>some ((),r)
 | .pair a b,r=>
  match dec h a r with
  | none=>none
  | some (x,r)=>
   match dec h b r with
   | none=>none
   | some (y,r)=>some ((x,y),r)
 | .sl s,vs=>
  match vs with
  | v :: r=>
   match decSl h s v with
   | some xs=>some (xs,r)
   | none=>none
  | []=>none
def qea(h:List O)(s:Sh)(cs:List V):Option s.den:=
 match dec h s cs with
 | some (x,[])=>some x
 | _=>none
def subAt:(s:Sh)->s.den->(off size:Nat)->Option (Σ s':Sh,s'.den)
 | .pair a b,x,off,size=>
  bif Nat.beq off 0&&Nat.beq size (a.n+b.n) then some ⟨.pair a b,x⟩
  else bif Nat.blt off a.n then subAt a x.1 off size else subAt b x.2 (off - a.n) size
 | .int k,x,off,size=>bif Nat.beq off 0&&Nat.beq size 1 then some ⟨.int k,x⟩ else none
 | .bool,x,off,size=>bif Nat.beq off 0&&Nat.beq size 1 then some ⟨.bool,x⟩ else none
 | .sl s,x,off,size=>bif Nat.beq off 0&&Nat.beq size 1 then some ⟨.sl s,x⟩ else none
 | .unit,_,_,_=>none
def decV(s:Sh)(v:V):Option s.den:=
 match v with
 | .agg vs=>bif s.isAgg then qea [] s vs else none
 | v=>bif s.isAgg then none else qea [] s [v]
def eqD:(s:Sh)->s.den->s.den->Bool
 | .int _,x,y=>x==y
 | .bool,x,y=>x==y
 | .unit,_,_=>true
 | .pair a b,x,y=>eqD a x.1 y.1&&eqD b x.2 y.2
 | .sl _,_,_=>false
abbrev Ents(k v:Sh):Type:=List (Int×(k.den×v.den))
def entOf(k v:Sh)(x:k.den):Ents k v->Option (Int×(k.den×v.den))
 | []=>none
 | e :: r=>bif eqD k x e.2.1 then some e else entOf k v x r
def turnL(k v:Sh)(x:k.den)(f:v.den->v.den):Ents k v->Ents k v
 | []=>[]
 | e :: r=>bif eqD k x e.2.1 then (e.1,(e.2.1,f e.2.2)) :: r else e :: turnL k v x f r
def dropL(k v:Sh)(x:k.den):Ents k v->Ents k v
 | []=>[]
 | e :: r=>bif eqD k x e.2.1 then r else e :: dropL k v x r
def atL(k v:Sh)(n:Int)(y:v.den):Ents k v->Ents k v
 | []=>[]
 | e :: r=>bif e.1==n then (e.1,(e.2.1,y)) :: r else e :: atL k v n y r
abbrev Mp(k v:Sh):Type:=Int×Ents k v
def mpHas(k v:Sh)(d:Mp k v)(x:k.den):Bool:=(entOf k v x d.2).isSome
def mpGet(k v:Sh)(d:Mp k v)(x:k.den):v.den:=match entOf k v x d.2 with | some e=>e.2.2 | none=>v.zero
def mpPut(k v:Sh)(d:Mp k v)(x:k.den)(y:v.den):Mp k v:=
 bif mpHas k v d x then (d.1,turnL k v x (fun _=>y) d.2) else (d.1+1,d.2 ++ [(d.1,(x,y))])
def mpEnt(k v:Sh)(d:Mp k v)(x:k.den):Mp k v:=
 bif mpHas k v d x then d else (d.1+1,d.2 ++ [(d.1,(x,v.zero))])
def qfk(k v:Sh)(d:Mp k v)(x:k.den):Int:=match entOf k v x d.2 with | some e=>e.1 | none=>d.1
def mpAt(k v:Sh)(d:Mp k v)(n:Int)(y:v.den):Mp k v:=(d.1,atL k v n y d.2)
def qiu(k v:Sh)(d:Mp k v)(n:Int):Bool:=d.2.any fun e=>e.1==n
def ixL(k v:Sh)(x:k.den):Ents k v->Nat
 | []=>0
 | e :: r=>bif eqD k x e.2.1 then 0 else ixL k v x r+1
def kidL(k v:Sh)(es:Ents k v)(i:Nat):v.den:=
 match es[i]? with
 | some e=>e.2.2
 | none=>v.zero
def putL(k v:Sh):Ents k v->Nat->v.den->Ents k v
 | [],_,_=>[]
 | e :: r,0,y=>(e.1,(e.2.1,y)) :: r
 | e :: r,i+1,y=>e :: putL k v r i y
def mpDel(k v:Sh)(d:Mp k v)(x:k.den):Mp k v:=(d.1,dropL k v x d.2)
inductive TD where
 | int (k:IntKind)
 | bool
 | slice (elem:TypeId)
 | array (n:Nat) (elem:TypeId)
 | struct (fields:List (Nat×TypeId))
 | map (key elem:TypeId) (ks vs:Sh)
 | nmap (key elem:TypeId) (ks:Sh) (kd:Kid)
 | str
 | ptr
 | ifc
 | other
structure TE where
 d:TD
 size:Nat
 bytes:Nat
 sh:Option Sh
 zero:List V
 key:Bool
 ms:List (String×Nat)
def TE.isAgg(t:TE):Bool:=
 match t.d with
 | .struct _=>true
 | .array _ _=>true
 | _=>false
def tlook:List (Nat×TE)->Nat->Option TE
 | [],_=>none
 | (k,e) :: r,t=>bif Nat.beq k t then some e else tlook r t
structure Pkg where
 α:Type
 r:Option α
 v:α->V
 h:Option (α->List O->List O)
 sp:(R:Type)->α->(α->Option R)->Option R:=fun _ a K=>K a
 spOk:∀ (R:Type) (a:α) (K:α->Option R),sp R a K=K a:=by intros;rfl
def caseD{A B R:Type}(y:A ⊕ B)(f:A->Option R)(g:B->Option R):Option R:=
 match y with
 | .inl a=>f a
 | .inr b=>g b
theorem qmf{A B R:Type}(a:A)(f:A->Option R)(g:B->Option R):caseD (.inl a) f g=f a:=rfl
theorem qme{A B R:Type}(b:B)(f:A->Option R)(g:B->Option R):caseD (.inr b) f g=g b:=rfl
structure ItPkg where
 α:Type
 xs:List α
 v:α->List V
 ok:Bool:=true
structure XPkg where
 α:Type
 r:Option (α ⊕ Unit)
 ty:TypeId
 h:List O
structure Ctx where
 T:List (Nat×TE)
 G:Nat->List V->List O->Option Pkg
 I:Nat->List V->List O->Option ItPkg
 N:Nat
 n:Nat
 fx:List Nat
 fl:Nat
 gs:List (Nat×List Value):=[]
 kr:List (TypeId×Kt):=[]
 X:Nat->List V->List O->Option XPkg:=fun _ _ _=>none
def Ctx.low(C:Ctx)(fl:Nat):Ctx:={ T:=C.T,G:=C.G,I:=C.I,N:=C.N,n:=C.n,fx:=C.fx,fl:=fl,gs:=C.gs,kr:=C.kr }
def klook:List (TypeId×Kt)->TypeId->Option Kt
 | [],_=>none
 | p :: r,t=>bif Nat.beq p.1 t then some p.2 else klook r t
abbrev Slots:=List (Nat×V)
structure St where
 t:Slots
 h:List O
def look:Slots->Nat->V
 | [],_=>.bad
 | (k,v) :: r,t=>bif Nat.beq k t then v else look r t
def qAT:Value->V
 | .int k n=>.int k n
 | .bool b=>.bool b
 | .slice none 0 0=>.nil
 | .pointer none=>.nl .ptr
 | .map none=>.nl .map
 | .nilIface=>.nl .ifc
 | _=>.bad
def tgtF(f:Nat):Nat:=bif Nat.blt f 1000000 then f else f - 1000000
def argsF(f:Nat)(args caps:List V):List V:=bif Nat.blt f 1000000 then args++caps else caps++args
def fstF(f:Nat)(vs:Array Value):Array Value:=bif Nat.blt f 1000000 then #[] else vs
def capF(f:Nat)(vs:Array Value):Array Value:=bif Nat.blt f 1000000 then vs else #[]
def cloV(f:Nat)(vs:Array Value):Value:=.func (.func (tgtF f)) (fstF f vs) (capF f vs)
def ev(t:Nat->V):Operand->V
 | .tmp i=>t i
 | .const v=>qAT v
 | .func f=>bif Nat.blt f 1000000 then .clo f [] else .bad
 | .global _=>.bad
def iand(k:IntKind)(x y:Int):Int:=k.wrap (BitVec.ofInt k.bits x &&& BitVec.ofInt k.bits y).toNat
def ior(k:IntKind)(x y:Int):Int:=k.wrap (BitVec.ofInt k.bits x ||| BitVec.ofInt k.bits y).toNat
def ixor(k:IntKind)(x y:Int):Int:=k.wrap (BitVec.ofInt k.bits x ^^^ BitVec.ofInt k.bits y).toNat
def iandNot(k:IntKind)(x y:Int):Int:=k.wrap (BitVec.ofInt k.bits x &&& ~~~ BitVec.ofInt k.bits y).toNat
def ishl(k:IntKind)(x y:Int):Int:=k.wrap (x*2 ^ (min y.toNat k.bits))
def ishr(k:IntKind)(x y:Int):Int:=x.fdiv (2 ^ (min y.toNat k.bits))
section
variable {R : Type}
def qse(op:BinOp)(k:IntKind)(x y:Int)(K:V->Option R):Option R:=
 match op with
 | .add=>K (.int k (k.wrap (x+y)))
 | .sub=>K (.int k (k.wrap (x - y)))
 | .mul=>K (.int k (k.wrap (x*y)))
 | .quo=>bif (y==0) then none else K (.int k (k.wrap (x.tdiv y)))
 | .rem=>bif (y==0) then none else K (.int k (x.tmod y))
 | .and=>K (.int k (iand k x y))
 | .or=>K (.int k (ior k x y))
 | .xor=>K (.int k (ixor k x y))
 | .andNot=>K (.int k (iandNot k x y))
 | .shl=>bif decide (y<0) then none else K (.int k (ishl k x y))
 | .shr=>bif decide (y<0) then none else K (.int k (ishr k x y))
 | .eql=>K (.bool (x==y))
 | .neq=>K (.bool (x != y))
 | .lss=>K (.bool (decide (x<y)))
 | .leq=>K (.bool (decide (x<=y)))
 | .gtr=>K (.bool (decide (x>y)))
 | .geq=>K (.bool (decide (x>=y)))
def qmT:BinOp->Bool
 | .shl=>true
 | .shr=>true
 | _=>false
def qtv(op:BinOp)(x y:Bool)(K:V->Option R):Option R:=
 match op with
 | .eql=>K (.bool (x==y))
 | .neq=>K (.bool (!(x==y)))
 | _=>none
def qwq(T:List (Nat×TE))(t:TypeId):Bool:=
 match tlook T t with
 | some te=>match te.d with | .bool=>true | _=>false
 | none=>false
def qek(T:List (Nat×TE))(ty:TypeId):Option (TypeId×TE):=
 match tlook T ty with
 | none=>none
 | some te=>
  match te.d with
  | .slice e=>
   match tlook T e with
   | some ee=>some (e,ee)
   | none=>none
  | _=>none
def nilOp(C:Ctx)(op:BinOp)(t:TypeId)(e:Bool)(K:V->Option R):Option R:=
 match qek C.T t with
 | none=>none
 | some _=>
  match op with
  | .eql=>K (.nlt false e)
  | .neq=>K (.nlt true e)
  | _=>none
def dem2(a b:Option R):Option R:=open Classical in if a=b then a else none
def qxQ(C:Ctx)(op:BinOp)(t:TypeId)(vs ws:List V)(K:V->Option R):Option R:=
 match tlook C.T t with
 | none=>none
 | some te=>
  bif te.key then
   match te.sh with
   | none=>none
   | some s=>
    match decV s (.agg vs) with
    | none=>none
    | some x=>
     match decV s (.agg ws) with
     | none=>none
     | some y=>
      match op with
      | .eql=>K (.bool (eqD s x y))
      | .neq=>K (.bool (!(eqD s x y)))
      | _=>none
  else none
def qga(op:BinOp)(b:Bool)(K:V->Option R):Option R:=
 match op with
 | .eql=>K (.bool b)
 | .neq=>K (.bool (!b))
 | _=>none
def qmK(C:Ctx)(op:BinOp)(t:TypeId)(x:V)(K:V->Option R):Option R:=
 match tlook C.T t with
 | none=>none
 | some te=>
  match te.d with
  | .ptr=>
   match x with
   | .nl .ptr=>qga op true K
   | .ptr _ off=>bif Nat.blt off 1000000 then qga op false K else none
   | .fptr _ _=>qga op false K
   | _=>none
  | _=>none
def qmO(C:Ctx)(h:List O)(op:BinOp)(t:TypeId)(x:V)(K:V->Option R):Option R:=
 match tlook C.T t with
 | none=>none
 | some te=>
  match te.d with
  | .map _ _ _ _=>
   match x with
   | .nl .map=>qga op true K
   | .rptr o ver _ _=>
    match getO h o with
    | .nst ver' q _=>bif Nat.beq ver ver' then qga op false K else none
    | _=>none
   | .ptr o _=>
    match getO h o with
    | .oth _ q _=>bif q.it then none else qga op false K
    | _=>none
   | _=>none
  | _=>none
def qmV(C:Ctx)(op:BinOp)(t:TypeId)(x:V)(K:V->Option R):Option R:=
 match tlook C.T t with
 | none=>none
 | some te=>
  match te.d with
  | .ifc=>
   match x with
   | .nl .ifc=>qga op true K
   | .ifc _ _=>qga op false K
   | _=>none
  | _=>none
def qic(C:Ctx)(op:BinOp)(t:TypeId)(x y:V)(K:V->Option R):Option R:=
 match x with
 | .int k a=>
  match y with
  | .int k' b=>bif qmT op then qse op k a b K else if k=k' then qse op k a b K else none
  | _=>none
 | .bool a=>
  match y with
  | .bool b=>bif qwq C.T t then qtv op a b K else none
  | _=>none
 | .sl _ xs=>
  match y with
  | .nil=>nilOp C op t xs.isEmpty K
  | _=>none
 | .agg vs=>
  match y with
  | .agg ws=>qxQ C op t vs ws K
  | _=>none
 | _=>none
def unOpK(op:UnOp)(x:V)(K:V->Option R):Option R:=
 match x with
 | .int k n=>
  match op with
  | .neg=>K (.int k (k.wrap (0 - n)))
  | .xor=>K (.int k (ixor k (if k.signed then -1 else k.max) n))
  | _=>none
 | .bool b=>
  match op with
  | .not=>K (.bool (!b))
  | _=>none
 | _=>none
def partV(agg:Bool)(size off:Nat)(vs:List V):V:=
 bif agg then .agg ((vs.drop off).take size) else vs.getD off .bad
def qdk(h:List O):V->Option (List V×Nat)
 | .ptr o off=>
  match getO h o with
  | .cells vs=>some (vs,off)
  | _=>none
 | .rptr o ver i off=>
  match getO h o with
  | .row _ ver' _ s xs=>bif Nat.beq ver ver' then some (encL s (nth s.zero xs i),off) else none
  | .kds ver' (.row _) (.dat s) none d=>bif Nat.beq ver ver'&&Nat.blt off 1000000 then some (encL s (nth s.zero d i),off) else none
  | _=>none
 | .fptr s x=>some (encL s x,0)
 | .pptr s x=>some ([.fptr s x],0)
 | _=>none
def qhO(agg:Bool)(size off len:Nat):Bool:=Nat.ble (off+size) len&&(agg||Nat.beq size 1)
def loadK(C:Ctx)(h:List O)(t:TypeId)(a:V)(K:V->Option R):Option R:=
 match tlook C.T t with
 | none=>none
 | some te=>
  match qdk h a with
  | none=>none
  | some p=>bif qhO te.isAgg te.size p.2 p.1.length then K (partV te.isAgg te.size p.2 p.1) else none
def qhd(size:Nat)(agg:Bool)(vs:List V)(i:Int)(K:V->Option R):(n:Nat)->(at_:Nat)->Option R
 | 0,_=>none
 | n+1,j=>bif i==(j:Int) then K (partV agg size (j*size) vs) else qhd size agg vs i K n (j+1)
def qfZ(t:Nat->V)(x:Option Operand)(d:Int)(K:Int->Option R):Option R:=
 match x with
 | none=>K d
 | some x=>match ev t x with | .int _ n=>K n | _=>none
def lenOf(h:List O):V->Option Nat
 | .nil=>some 0
 | .sl _ xs=>some xs.length
 | .slc o ver=>
  match getO h o with
  | .row _ ver' _ _ xs=>bif Nat.beq ver ver' then some xs.length else none
  | _=>none
 | .tl o ver a=>
  match getO h o with
  | .row _ ver' _ _ xs=>bif Nat.beq ver ver' then some (xs.length - a) else none
  | _=>none
 | .rptr o ver _ off=>
  match getO h o with
  | .kds ver' (.row _) _ _ d=>bif Nat.beq off 2000000&&Nat.beq ver ver' then some d.length else none
  | _=>none
 | _=>none
def fillV(place:Nat->Option (Nat×Nat))(t:Nat->V):List (Nat×Operand)->List V->Option (List V)
 | [],vs=>some vs
 | (i,x) :: r,vs=>
  match place i with
  | none=>none
  | some (off,size)=>
   bif Nat.beq (ev t x).cells.length size&&(ev t x).okStore&&Nat.ble (off+size) vs.length then
    fillV place t r (vs.take off++(ev t x).cells++vs.drop (off+size))
   else none
def qiD(T:List (Nat×TE))(fs:List (Nat×TypeId))(i:Nat):Option (Nat×Nat):=
 match fs[i]? with
 | none=>none
 | some (off,ft)=>
  match tlook T ft with
  | none=>none
  | some fe=>some (off,fe.size)
def qqr(C:Ctx)(t:Nat->V)(ty:TypeId)(ps:List (Nat×Operand))(K:V->Option R):Option R:=
 match tlook C.T ty with
 | none=>none
 | some te=>
  match te.d with
  | .struct fs=>
   match fillV (qiD C.T fs) t ps te.zero with
   | none=>none
   | some vs=>K (.agg vs)
  | .array _ e=>
   match tlook C.T e with
   | none=>none
   | some ee=>
    match fillV (fun i=>some (i*ee.size,ee.size)) t ps te.zero with
    | none=>none
    | some vs=>K (.agg vs)
  | _=>none
def qxe(h:List O)(o ver:Nat):Bool:=
 match getO h o with
 | .row _ ver' _ _ _=>Nat.beq ver ver'
 | _=>false
def qrH(h:List O)(o ver off:Nat):Bool:=
 match getO h o with
 | .kds ver' (.row _) _ _ _=>Nat.beq ver ver'&&Nat.blt off 1000000
 | _=>false
def qfP(C:Ctx)(h:List O)(ty:TypeId)(x:V)(f:Nat)(K:V->Option R):Option R:=
 match tlook C.T ty with
 | none=>none
 | some te=>
  match te.d with
  | .struct fs=>
   match qiD C.T fs f with
   | none=>none
   | some (off,size)=>
    bif Nat.ble 1 size then
     match x with
     | .ptr o a=>bif Nat.blt a 1000000 then K (.ptr o (a+off)) else none
     | .rptr o v i a=>bif qxe h o v||(qrH h o v a&&qrH h o v (a+off)) then K (.rptr o v i (a+off)) else none
     | .fptr s x=>
      match subAt s x off size with
      | some y=>K (.fptr y.1 y.2)
      | none=>none
     | _=>none
    else none
  | _=>none
def qrO(C:Ctx)(ty:TypeId)(x:V)(f:Nat)(K:V->Option R):Option R:=
 match tlook C.T ty with
 | none=>none
 | some te=>
  match te.d with
  | .struct fs=>
   match fs[f]? with
   | none=>none
   | some (off,ft)=>
    match tlook C.T ft with
    | none=>none
    | some fe=>
     match x with
     | .agg vs=>bif qhO fe.isAgg fe.size off vs.length then K (partV fe.isAgg fe.size off vs) else none
     | _=>none
  | _=>none
def qeI(C:Ctx)(h:List O)(ty:TypeId)(x i:V)(K:V->Option R):Option R:=
 match qek C.T ty with
 | none=>none
 | some (_,ee)=>
  match i with
  | .int _ j=>
   match x with
   | .sl s xs=>
    bif Nat.beq s.n ee.size&&Nat.ble 1 s.n then
     (bif decide (0<=j)&&decide (j<xs.length) then K (.fptr s (nth s.zero xs j.toNat)) else none)
    else none
   | .slc o ver=>
    match getO h o with
    | .row _ ver' _ s xs=>
     bif Nat.beq s.n ee.size&&Nat.ble 1 s.n&&Nat.beq ver ver' then
      (bif decide (0<=j)&&decide (j<xs.length) then K (.rptr o ver j.toNat 0) else none)
     else none
    | _=>none
   | .tl o ver a=>
    match getO h o with
    | .row _ ver' _ s xs=>
     bif Nat.beq s.n ee.size&&Nat.ble 1 s.n&&Nat.beq ver ver' then
      (bif decide (0<=j)&&decide (j<(xs.length - a:Nat)) then K (.rptr o ver (a+j.toNat) 0) else none)
     else none
    | _=>none
   | .rptr o ver _ off=>
    match getO h o with
    | .kds ver' (.row _) t _ d=>
     bif Nat.beq t.n ee.size&&(Nat.ble 1 t.n&&(Nat.beq ver ver'&&Nat.beq off 2000000)) then
      (bif decide (0<=j)&&decide (j<d.length) then K (.rptr o ver j.toNat 0) else none)
     else none
    | _=>none
   | _=>none
  | _=>none
def qjK(T:List (Nat×TE))(ty:TypeId):Option (Nat×TypeId×TE):=
 match tlook T ty with
 | none=>none
 | some te=>
  match te.d with
  | .array n e=>
   match tlook T e with
   | some ee=>some (n,e,ee)
   | none=>none
  | _=>none
def qhc(o a size:Nat)(i:Int)(K:V->Option R):(n:Nat)->(at_:Nat)->Option R
 | 0,_=>none
 | n+1,j=>bif i==(j:Int) then K (.ptr o (a+j*size)) else qhc o a size i K n (j+1)
def qfO(C:Ctx)(h:List O)(ty:TypeId)(x i:V)(K:V->Option R):Option R:=
 match qjK C.T ty with
 | some (n,_,ee)=>
  match i with
  | .int _ j=>
   match x with
   | .ptr o a=>bif Nat.blt a 1000000&&Nat.ble 2 n then qhc o a ee.size j K n 0 else none
   | _=>none
  | _=>none
 | none=>qeI C h ty x i K
def qrI(C:Ctx)(ty:TypeId)(x i:V)(K:V->Option R):Option R:=
 match tlook C.T ty with
 | none=>none
 | some te=>
  match te.d with
  | .array n e=>
   match tlook C.T e with
   | none=>none
   | some ee=>
    match i with
    | .int _ j=>
     match x with
     | .agg vs=>bif Nat.beq (n*ee.size) vs.length&&(ee.isAgg||Nat.beq ee.size 1) then qhd ee.size ee.isAgg vs j K n 0 else none
     | _=>none
    | _=>none
  | _=>none
def qjA(C:Ctx)(ty:TypeId)(s:ByteArray)(i:V)(K:V->Option R):Option R:=none
def qmH(C:Ctx)(ty:TypeId)(x:V)(lo hi:Option Operand)(K:V->Option R):Option R:=
 match qjK C.T ty with
 | none=>none
 | some (n,_,ee)=>
  match lo with
  | some _=>none
  | none=>
   match hi with
   | some _=>none
   | none=>
    match x with
    | .ptr o off=>bif Nat.beq ee.size 1&&(Nat.blt off 1000000&&Nat.ble n 1000000) then K (.tl o 0 (off+1000000*n)) else none
    | _=>none
def qfC(h:List O)(s:Sh):(n:Nat)->List V->Option (List s.den)
 | 0,[]=>some []
 | 0,_ :: _=>none
 | n+1,vs=>
  match dec h s vs with
  | none=>none
  | some (x,r)=>
   match qfC h s n r with
   | none=>none
   | some xs=>some (x :: xs)
def qkM(C:Ctx)(t:Nat->V)(ty:TypeId)(s:Sh)(y:s.den)(lo hi:Option Operand)(K:V->Option R):Option R:=
 match qjK C.T ty with
 | none=>none
 | some (n,_,ee)=>
  match ee.sh with
  | none=>none
  | some s'=>
   match lo with
   | some _=>none
   | none=>
    bif Nat.beq s'.n 1&&Nat.beq ee.size 1&&Nat.ble n (encL s y).length&&Nat.ble n 1000000 then
     match qfC [] s' n ((encL s y).take n) with
     | none=>none
     | some xs=>qfZ t hi xs.length fun b=>bif decide (0<=b)&&decide (b<=xs.length) then K (.sl s' (xs.take b.toNat)) else none
    else none
def qoT(C:Ctx)(h:List O)(t:Nat->V)(ty:TypeId)(x:V)(lo hi:Option Operand)(K:V->Option R):Option R:=
 match qek C.T ty with
 | none=>
  match x with
  | .fptr s y=>qkM C t ty s y lo hi K
  | _=>qmH C ty x lo hi K
 | some (_,ee)=>
  match x with
  | .sl s xs=>
   bif Nat.beq s.n ee.size&&Nat.ble 1 s.n then
    qfZ t hi xs.length fun b=>qfZ t lo 0 fun a=>
     bif decide (0<=a)&&(decide (a<=b)&&decide (b<=xs.length)) then K (.sl s ((xs.take b.toNat).drop a.toNat)) else none
   else none
  | .slc o ver=>
   match hi with
   | some _=>none
   | none=>
    match getO h o with
    | .row _ ver' _ s xs=>
     bif Nat.beq s.n ee.size&&Nat.ble 1 s.n&&Nat.beq ver ver' then
      qfZ t lo 0 fun a=>bif decide (0<=a)&&decide (a<=xs.length) then K (.tl o ver a.toNat) else none
     else none
    | _=>none
  | _=>none
def lenK(C:Ctx)(h:List O)(ty:TypeId)(x:V)(K:V->Option R):Option R:=
 match tlook C.T ty with
 | none=>none
 | some te=>
  match te.d with
  | .slice _=>match lenOf h x with | some n=>K (.int .i64 n) | none=>none
  | .array n _=>K (.int .i64 n)
  | _=>none
def qkT(max:Bool)(vs:List V)(K:V->Option R):Option R:=
 match vs with
 | [.int k x,.int k' y]=>
  if k=k' then K (.int k (bif max then (if y>x then y else x) else (if y<x then y else x))) else none
 | _=>none
def qsc(C:Ctx)(h:List O)(f:V)(args:List V)(K:V->Option R):Option R:=
 match f with
 | .clo g caps=>
  match C.G (tgtF g) (argsF g args caps) h with
  | none=>none
  | some p=>
   match p.h with
   | none=>p.r.bind fun a=>p.sp R a fun a=>K (p.v a)
   | some _=>none
 | _=>none
def mlook:List (String×Nat)->String->Option Nat
 | [],_=>none
 | m :: r,s=>bif m.1==s then (bif Nat.blt m.2 1000000 then some m.2 else none) else mlook r s
def callT(T:List (Nat×TE))(t:Nat->V)(o:Op):Option (V×List V):=
 match o with
 | .call c=>
  match c.callee with
  | .value f=>some (ev t f,c.args.toList.map (ev t))
  | .invoke r nm=>
   match ev t r with
   | .ifc ty v=>
    match tlook T ty with
    | none=>none
    | some te=>
     match mlook te.ms nm with
     | none=>none
     | some g=>some (.clo g [],v :: c.args.toList.map (ev t))
   | _=>none
  | _=>none
 | _=>none
def qrE(C:Ctx)(t:TypeId)(x:V)(K:V->Option R):Option R:=
 match tlook C.T t with
 | none=>none
 | some te=>
  match te.d with
  | .ifc=>none
  | .other=>none
  | _=>K (.ifc t x)
def qkd(C:Ctx)(s d:TypeId)(x:V)(K:V->Option R):Option R:=
 match tlook C.T s with
 | none=>none
 | some _=>
 match tlook C.T d with
 | none=>none
 | some te=>
  match te.d with
  | .int k=>match x with | .int _ n=>K (.int k (k.wrap n)) | _=>none
  | _=>none
def pickK(c a b:V)(K:V->Option R):Option R:=
 match c with
 | .bool c=>bif c then K a else K b
 | _=>none
def qdA(h:List O)(x:V)(K:V->Option R):Option R:=
 match x with
 | .ptr o f=>bif Nat.blt f 1000000 then K (.ptr o f) else none
 | .rptr o v i f=>bif qxe h o v||qrH h o v f then K (.rptr o v i f) else none
 | .fptr s x=>K (.fptr s x)
 | .clo f c=>K (.clo f c)
 | _=>none
def qiE(x:V)(i:Nat)(K:V->Option R):Option R:=
 match x with
 | .tup vs=>match vs[i]? with | some v=>K v | none=>none
 | _=>none
def mapTy(T:List (Nat×TE))(ty:TypeId):Option Oth:=
 match tlook T ty with
 | none=>none
 | some te=>
  match te.d with
  | .map k e ks vs=>some ⟨false,k,e,ks,vs,false⟩
  | _=>none
def mapAt(T:List (Nat×TE))(h:List O)(ty:TypeId)(x:V):Option (Nat×Bool×(Σ q:Oth,q.sh.den)):=
 match mapTy T ty with
 | none=>none
 | some q0=>
  match x with
  | .ptr o _=>
   match getO h o with
   | .oth fz q d=>bif decide (q=q0) then some (o,fz,⟨q,d⟩) else none
   | _=>none
  | _=>none
def qnC(T:List (Nat×TE))(ty:TypeId):Option Nst:=
 match tlook T ty with
 | none=>none
 | some te=>
  match te.d with
  | .nmap k e ks kd=>some ⟨false,k,e,ks,kd⟩
  | _=>none
def nstAt(T:List (Nat×TE))(h:List O)(ty:TypeId)(x:V):Option (Nat×Nat×(Σ q:Nst,q.sh.den)):=
 match qnC T ty with
 | none=>none
 | some q0=>
  match x with
  | .ptr o _=>
   match getO h o with
   | .nst ver q d=>bif decide (q=q0) then some (o,ver,⟨q,d⟩) else none
   | _=>none
  | _=>none
def nitAt(h:List O)(x:V):Option (Nat×Nat×(Σ q:Nst,q.sh.den)):=
 match x with
 | .ptr o _=>
  match getO h o with
  | .nst ver q d=>
   match q.kd with
   | .map kq=>bif q.it && !kq.it then some (o,ver,⟨q,d⟩) else none
   | .row _ _=>none
  | _=>none
 | _=>none
def kdMap:Kid->Option Oth
 | .map q=>bif q.it then none else some q
 | .row _ _=>none
def kidO(kd:Kid)(x:kd.sh.den):O:=
 match kd,x with
 | .map q,x=>.oth false q x
 | .row e s,x=>.row false 0 e s x
def kidAt(h:List O)(x:V):Option (Nat×Nat×(Σ q:Nst,q.sh.den)×Nat):=
 match x with
 | .rptr o ver i 1000000=>
  match getO h o with
  | .nst ver' q d=>
   match kdMap q.kd with
   | none=>none
   | some _=>bif Nat.beq ver ver' then some (o,ver,⟨q,d⟩,i) else none
  | _=>none
 | _=>none
def iterAt(h:List O)(x:V):Option (Nat×(Σ q:Oth,q.sh.den)):=
 match x with
 | .ptr o _=>
  match getO h o with
  | .oth false q d=>bif q.it && !q.un then some (o,⟨q,d⟩) else none
  | _=>none
 | _=>none
def qkV(C:Ctx)(h:List O)(ty:TypeId)(x i:V)(ok:Bool)(K:V->Option R):Option R:=
 match mapAt C.T h ty x with
 | none=>none
 | some (_,_,⟨q,d⟩)=>
  match decV q.k i with
  | none=>none
  | some y=>bif ok then K (.tup [enc q.v (mpGet q.k q.v d y),.bool (mpHas q.k q.v d y)]) else K (enc q.v (mpGet q.k q.v d y))
def qgY(C:Ctx)(h:List O)(ty:TypeId)(x i:V)(ok:Bool)(K:V->Option R):Option R:=
 match nstAt C.T h ty x with
 | none=>none
 | some (o,ver,⟨q,d⟩)=>
  match kdMap q.kd with
  | none=>none
  | some _=>
   match decV q.k i with
   | none=>none
   | some y=>bif ok then none else bif mpHas q.k q.kd.sh d y then K (.rptr o ver (ixL q.k q.kd.sh y d.2) 1000000) else K (.nl .map)
def qqe(h:List O)(x:V)(K:V->Option R):Option R:=none
def qrP(h:List O)(x:V)(K:V->Option R):Option R:=
 match iterAt h x with
 | none=>qqe h x K
 | some (_,⟨q,d⟩)=>
  match d.2 with
  | e :: _=>bif d.1==1 then K (.tup [enc q.k e.2.1,enc q.v e.2.2]) else none
  | []=>none
def lenNK(h:List O)(x:V)(K:V->Option R):Option R:=none
def unLen(h:List O)(x:V):Option Int:=
 match x with
 | .ptr o _=>
  match getO h o with
  | .oth _ q d=>bif q.un && !q.it then some (d.2.length:Nat) else none
  | _=>none
 | _=>none
def qmR(C:Ctx)(h:List O)(ty:TypeId)(x:V)(K:V->Option R):Option R:=
 match mapAt C.T h ty x with
 | none=>match unLen h x with | some n=>K (.int .i64 n) | none=>lenNK h x K
 | some (_,_,⟨_,d⟩)=>K (.int .i64 d.2.length)
def qjV(C:Ctx)(nid:Nat)(ty:TypeId)(rs:Option V)(K:V->List (Nat×O)->Option O->Option R):Option R:=
 match mapTy C.T ty with
 | none=>
  match qnC C.T ty with
  | none=>none
  | some q=>
   match rs with
   | none=>K (.ptr nid 1000000) [] (some (.nst 0 q ((0:Int),[])))
   | _=>none
 | some q=>
  match rs with
  | none=>K (.ptr nid 1000000) [] (some (.oth false q ((0:Int),[])))
  | some (.int _ _)=>K (.ptr nid 1000000) [] (some (.oth false q ((0:Int),[])))
  | _=>none
def qxD(T:List (Nat×TE))(ty:TypeId)(kt et:TypeId)(k s:Sh):Bool:=
 match mapTy T ty with
 | none=>false
 | some q=>Nat.ble 1 s.n&&(Nat.beq q.kt kt&&(Nat.beq q.et et&&(decide (q.k=k)&&decide (q.v=.sl s))))
def qrJ(k s:Sh)(hl:Option (k.den×V))(d:Mp k (.sl s))(y:k.den):Bool:=
 match hl with
 | some y0=>eqD k y y0.1
 | none=>!mpHas k (.sl s) d y
def qeG(C:Ctx)(h:List O)(ty:TypeId)(m k x:V)(K:V->List (Nat×O)->Option O->Option R):Option R:=
 match m with
 | .ptr ob _=>
  match getO h ob with
  | .kds ver (.map kt et kS) (.row e s) hl d=>
   bif qxD C.T ty kt et kS s then
    match decV kS k with
    | none=>none
    | some y=>
     match x with
     | .slc n vn=>
      match getO h n with
      | .row false vn' e' s' xs=>
       bif Nat.beq vn vn'&&Nat.beq e e' then
        match qbn (s:=.sl s') (s':=.sl s) xs with
        | none=>none
        | some xs=>
         bif qrJ kS s hl d y then K .bad [(n,.row true (vn'+1) e s []),(ob,.kds ver (.map kt et kS) (.row e s) none (mpPut kS (.sl s) d y xs))] none else none
       else none
      | _=>none
     | _=>none
   else none
  | _=>none
 | _=>none
def qeF(C:Ctx)(h:List O)(ty:TypeId)(m k x:V)(K:V->List (Nat×O)->Option O->Option R):Option R:=
 match mapAt C.T h ty m with
 | none=>qeG C h ty m k x K
 | some (o,fz,⟨q,d⟩)=>
  bif fz then none
  else
   match decV q.k k with
   | none=>none
   | some y=>
    match decV q.v x with
    | none=>none
    | some z=>K .bad [(o,.oth false q (mpPut q.k q.v d y z))] none
def qgc(C:Ctx)(h:List O)(ty:TypeId)(m k x:V)(K:V->List (Nat×O)->Option O->Option R):Option R:=none
def qgd(C:Ctx)(h:List O)(ty:TypeId)(m k:V)(K:V->List (Nat×O)->Option O->Option R):Option R:=
 match mapAt C.T h ty m with
 | none=>none
 | some (o,fz,⟨q,d⟩)=>
  bif fz then none
  else
   match decV q.k k with
   | none=>none
   | some y=>K (.tup [enc q.v (mpGet q.k q.v d y),.int .i64 (qfk q.k q.v d y)]) [(o,.oth false q (mpEnt q.k q.v d y))] none
def qeK(C:Ctx)(h:List O)(ty:TypeId)(m s x:V)(K:V->List (Nat×O)->Option O->Option R):Option R:=
 match mapAt C.T h ty m with
 | none=>none
 | some (o,fz,⟨q,d⟩)=>
  bif fz then none
  else
   match s with
   | .int _ n=>
    match decV q.v x with
    | none=>none
    | some z=>bif qiu q.k q.v d n then K .bad [(o,.oth false q (mpAt q.k q.v d n z))] none else none
   | _=>none
def qpi(C:Ctx)(h:List O)(nid:Nat)(ty:TypeId)(x:V)(K:V->List (Nat×O)->Option O->Option R):Option R:=none
def qrw(C:Ctx)(h:List O)(nid:Nat)(ty:TypeId)(x:V)(K:V->List (Nat×O)->Option O->Option R):Option R:=
 match mapAt C.T h ty x with
 | none=>none
 | some (o,_,⟨q,d⟩)=>K (.ptr nid 1000000) [(o,.oth true q d)] (some (.oth false ⟨true,q.kt,q.et,q.k,q.v,false⟩ ((0:Int),d.2)))
def qnf(C:Ctx)(h:List O)(ty:TypeId)(m k:V)(K:V->List (Nat×O)->Option O->Option R):Option R:=
 match mapAt C.T h ty m with
 | none=>none
 | some (o,fz,⟨q,d⟩)=>
  bif fz then none
  else
   match decV q.k k with
   | none=>none
   | some y=>K (.tup []) [(o,.oth false q (mpDel q.k q.v d y))] none
def qrZ(C:Ctx)(h:List O)(ty:TypeId)(m:V)(K:V->List (Nat×O)->Option O->Option R):Option R:=
 match mapAt C.T h ty m with
 | none=>none
 | some (o,fz,⟨q,d⟩)=>bif fz then none else K (.tup []) [(o,.oth false q (d.1,[]))] none
def qjG(C:Ctx)(h:List O)(ty:TypeId)(x:V)(K:V->List (Nat×O)->Option O->Option R):Option R:=none
def leD:(s:Sh)->s.den->s.den->Bool
 | .int _,x,y=>decide (x<=y)
 | .bool,x,y=>!x||y
 | .unit,_,_=>true
 | .pair a b,x,y=>bif leD a x.1 y.1 then (bif leD a y.1 x.1 then leD b x.2 y.2 else true) else false
 | .sl _,_,_=>true
def qAX(k v:Sh)(d:Mp k v):Mp k v:=((0:Int),(d.2.mergeSort (fun a b=>leD k a.2.1 b.2.1)).map fun e=>((0:Int),e.2))
def UnE(k v:Sh)(d d':Mp k v):Prop:=(d.2.map (·.2)).Perm (d'.2.map (·.2))
def anyU{k v:Sh}(d:Mp k v)(f:Mp k v->Option R):Option R:=open Classical in
 if h:∃ r,∀ d',UnE k v d d'->f d'=some r then some h.choose else none
def anyE{α:Type}(xs:List α)(f:α->List α->Option R):Option R:=open Classical in
 if h:∃ r,xs ≠ []/\∀ i x,xs[i]? = some x->f x (xs.eraseIdx i)=some r then some h.choose else none
def restE{k v:Sh}(d:Mp k v):Ents k v:=bif d.1==1 then d.2.tail else d.2
def nextE{k v:Sh}(d:Mp k v)(k0:Option R)(k1:Int×(k.den×v.den)->Ents k v->Option R):Option R:=
 bif (restE d).isEmpty then k0 else anyE (restE d) k1
def callR(C:Ctx)(t:Nat->V)(h:List O)(c:Call)(K:V->Option R):Option R:=
 match c.callee with
 | .builtin b=>
  match b with
  | .len=>
   match c.args[0]?,c.argTypes[0]? with
   | some x,some ty=>
    match mapTy C.T ty with
    | some _=>qmR C h ty (ev t x) K
    | none=>lenK C h ty (ev t x) K
   | _,_=>none
  | .min=>qkT false (c.args.toList.map (ev t)) K
  | .max=>qkT true (c.args.toList.map (ev t)) K
  | _=>none
 | _=>
  match callT C.T t (.call c) with
  | none=>none
  | some p=>qsc C h p.1 p.2 K
def evR(C:Ctx)(o:Op)(t:Nat->V)(h:List O)(K:V->Option R):Option R:=
 match o with
 | .move x=>K (ev t x)
 | .assign x=>K (ev t x)
 | .pick c a b=>pickK (ev t c) (ev t a) (ev t b) K
 | .binOp op ty x y _=>
  match y with
  | .const .nilIface=>qmV C op ty (ev t x) K
  | .const (.pointer none)=>qmK C op ty (ev t x) K
  | .const (.map none)=>qmO C h op ty (ev t x) K
  | _=>qic C op ty (ev t x) (ev t y) K
 | .makeInterface ty x=>qrE C ty (ev t x) K
 | .unOp op _ x=>unOpK op (ev t x) K
 | .convert s d x=>qkd C s d (ev t x) K
 | .nilCheck x=>qdA h (ev t x) K
 | .load ty a=>loadK C h ty (ev t a) K
 | .fieldAddr ty x f=>qfP C h ty (ev t x) f K
 | .field ty x f=>qrO C ty (ev t x) f K
 | .indexAddr ty x i=>qfO C h ty (ev t x) (ev t i) K
 | .index ty x i=>
  match x with
  | .const (.string s)=>qjA C ty s (ev t i) K
  | _=>qrI C ty (ev t x) (ev t i) K
 | .extract x i=>qiE (ev t x) i K
 | .build ty ps=>qqr C t ty ps.toList K
 | .makeFunc fn first caps=>
  match fn with
  | .func f=>
   bif Nat.blt f 1000000 then
    (bif first.isEmpty then K (.clo f (caps.toList.map (ev t)))
    else bif caps.isEmpty then K (.clo (f+1000000) (first.toList.map (ev t))) else none)
   else none
  | _=>none
 | .slice ty x lo hi mx=>
  match mx with
  | none=>qoT C h t ty (ev t x) lo hi K
  | some _=>none
 | .lookup ty x i ok=>
  match qnC C.T ty with
  | some _=>qgY C h ty (ev t x) (ev t i) ok K
  | none=>qkV C h ty (ev t x) (ev t i) ok K
 | .entry x=>qrP h (ev t x) K
 | .call c=>callR C t h c K
 | _=>none
def qai:List (Nat×O)->List O->List O
 | [],h=>h
 | (i,o) :: r,h=>qai r (h.set i o)
def frzL(h:List O):List V->List (Nat×O)
 | []=>[]
 | v :: r=>
  match v with
  | .slc o ver=>
   match getO h o with
   | .row _ ver' e s xs=>bif Nat.beq ver ver' then (o,.row true ver' e s xs) :: frzL h r else frzL h r
   | _=>frzL h r
  | _=>frzL h r
def qvW(z:List V):Nat->List V
 | 0=>[]
 | n+1=>z++qvW z n
def qdS(C:Ctx)(t:Nat->V)(h:List O)(nid:Nat)(ty:TypeId)(n:Nat)(ps:List (Nat×Operand))(K:V->List (Nat×O)->Option O->Option R):Option R:=
 match qek C.T ty with
 | none=>none
 | some (e,ee)=>
  match ee.sh with
  | none=>none
  | some s=>
   bif Nat.ble (n*ee.size) 16777216&&Nat.ble 1 ee.size then
    match fillV (fun i=>some (i*ee.size,ee.size)) t ps (qvW ee.zero n) with
    | none=>none
    | some vs=>
     match qfC (qai (frzL h vs) h) s n vs with
     | none=>none
     | some xs=>K (.slc nid 0) (frzL h vs) (some (.row false 0 e s xs))
   else none
def qeH(C:Ctx)(nid:Nat)(ty:TypeId)(len cap:V)(K:V->List (Nat×O)->Option O->Option R):Option R:=
 match qek C.T ty with
 | none=>none
 | some (e,ee)=>
  match ee.sh with
  | none=>none
  | some s=>
   match len with
   | .int _ l=>
    match cap with
    | .int _ c=>
     bif Nat.ble 1 ee.size&&Nat.ble 1 ee.bytes then
      (bif decide (0<=l)&&(decide (l<=c)&&decide (c*ee.bytes<=281474976710656)) then
       K (.slc nid 0) [] (some (.row false 0 e s (List.replicate l.toNat s.zero)))
      else none)
     else none
    | _=>none
   | _=>none
def qhR(C:Ctx)(nid:Nat)(ty:TypeId)(len cap:V)(t:Kt)(K:V->List (Nat×O)->Option O->Option R):Option R:=none
def qfN(C:Ctx)(nid:Nat)(ty:TypeId)(len cap:V)(K:V->List (Nat×O)->Option O->Option R):Option R:=
 match klook C.kr ty with
 | some t=>qhR C nid ty len cap t K
 | none=>qeH C nid ty len cap K
def updAt(h:List O)(s:Sh)(x:s.den)(off:Nat)(cs:List V):Option s.den:=
 bif Nat.ble (off+cs.length) s.n then qea h s ((encL s x).take off++cs++(encL s x).drop (off+cs.length)) else none
def qkG(C:Ctx)(h:List O)(ty:TypeId)(a v:V)(K:V->List (Nat×O)->Option O->Option R):Option R:=
 match tlook C.T ty with
 | none=>none
 | some te=>
  bif Nat.beq v.cells.length te.size&&v.okStore then
   match a with
   | .ptr o off=>
    match getO h o with
    | .cells vs=>bif Nat.ble (off+te.size) vs.length then K .bad [(o,.cells (vs.take off++v.cells++vs.drop (off+te.size)))] none else none
    | _=>none
   | .rptr o ver i off=>
    match getO (qai (frzL h v.cells) h) o with
    | .row fz ver' e s xs=>
     bif Nat.beq ver ver' && !fz then
      match updAt (qai (frzL h v.cells) h) s (nth s.zero xs i) off v.cells with
      | some y=>K .bad (frzL h v.cells ++ [(o,.row false ver' e s (xs.set i y))]) none
      | none=>none
     else none
    | _=>none
   | _=>none
  else none
def qnN:V->Option Nat
 | .slc n 0=>some n
 | .slc n _=>some n
 | .rptr n _ _ _=>some n
 | .ptr n _=>some n
 | _=>none
def qdb(t:Kt)(v:V)(o:O):Option t.sh.den:=
 match t with
 | .row e s=>
  match v with
  | .slc _ ver=>
   match o with
   | .row false ver' e' s' xs=>bif Nat.beq ver ver'&&Nat.beq e' e then qbn (s:=.sl s') (s':=.sl s) xs else none
   | _=>none
  | _=>none
 | .krow e t=>
  match v with
  | .rptr _ ver _ off=>
   match o with
   | .kds ver' (.row e') t' none d=>bif Nat.beq off 2000000&&(Nat.beq ver ver'&&(Nat.beq e' e&&decide (t'=t))) then qbn (s:=.sl t'.sh) (s':=.sl t.sh) d else none
   | _=>none
  | _=>none
 | .box _ (.dat s)=>
  match v with
  | .ptr _ off=>
   match o with
   | .cells vs=>
    bif Nat.beq off 0 then
     match qea [] s vs with
     | some y=>some (true,y)
     | none=>none
    else none
   | _=>none
  | _=>none
 | .map q=>
  match v with
  | .ptr _ off=>
   match o with
   | .oth false q' d=>bif Nat.beq off 1000000&&(decide (q'=q)&&(!q.it && !q.un)) then qbn (s:=q'.sh) (s':=q.sh) d else none
   | _=>none
  | _=>none
 | _=>none
def husk:O->O
 | .row _ ver e s _=>.row true (ver+1) e s []
 | _=>.gone
def qpH(t:Kt)(x:t.sh.den):Option O:=
 match t,x with
 | .row e s,x=>some (.row false 0 e s x)
 | .krow e t,x=>some (.kds 0 (.row e) t none x)
 | .box _ (.dat s),x=>some (.cells (encL s x.2))
 | .map q,x=>some (.oth false q x)
 | _,_=>none
def kidGo(t:Kt)(x:t.sh.den):Bool:=
 match t,x with
 | .box _ _,x=>x.1
 | .map _,x=>decide (0<=x.1)
 | _,_=>true
def qtS(C:Ctx)(h:List O)(ty:TypeId)(o ver i off:Nat)(v:V)(K:V->List (Nat×O)->Option O->Option R):Option R:=none
def qrn(C:Ctx)(h:List O)(ty:TypeId)(a v:V)(K:V->List (Nat×O)->Option O->Option R):Option R:=
 match a with
 | .rptr o ver i off=>
  match getO h o with
  | .kds _ _ _ _ _=>qtS C h ty o ver i off v K
  | _=>qkG C h ty a v K
 | _=>qkG C h ty a v K
def qnq(C:Ctx)(h:List O)(nid:Nat)(ty:TypeId)(x y:V)(K:V->List (Nat×O)->Option O->Option R):Option R:=none
def qiG(C:Ctx)(h:List O)(nid:Nat)(ty:TypeId)(x y:V)(K:V->List (Nat×O)->Option O->Option R):Option R:=
 match qek C.T ty with
 | none=>none
 | some (e,ee)=>
  match ee.sh with
  | none=>none
  | some s=>
   bif Nat.ble 1 ee.size then
    match decSl h s y with
    | none=>none
    | some ys=>
     match x with
     | .nil=>
      bif decide (ys.length*ee.bytes<=140737488355328)&&Nat.ble 1 ee.bytes then K (.slc nid 0) [] (some (.row false 0 e s ys)) else none
     | .slc o ver=>
      match getO h o with
      | .row fz ver' e' s' xs=>
       bif Nat.beq ver ver' && !fz&&Nat.beq e e' then
        match qbn (s:=.sl s') (s':=.sl s) xs with
        | none=>none
        | some xs=>
         bif decide ((xs.length+ys.length)*ee.bytes<=140737488355328)&&Nat.ble 1 ee.bytes then
          K (.slc o (ver+1)) [(o,.row false (ver+1) e s (xs++ys))] none
         else none
       else none
      | _=>none
     | _=>none
   else none
def qnr(C:Ctx)(h:List O)(nid:Nat)(ty:TypeId)(x y:V)(K:V->List (Nat×O)->Option O->Option R):Option R:=
 match x with
 | .rptr _ _ _ _=>qnq C h nid ty x y K
 | .nil=>match klook C.kr ty with | some _=>qnq C h nid ty x y K | none=>qiG C h nid ty x y K
 | _=>qiG C h nid ty x y K
def cpy{α:Type}(xs ys:List α):List α:=ys.take xs.length++xs.drop ys.length
def unL(s:Sh)(xs:List s.den):Nat->Nat->List V
 | 0,_=>[]
 | n+1,i=>encL s (nth s.zero xs i)++unL s xs n (i+1)
def copyK(C:Ctx)(h:List O)(ty:TypeId)(x y:V)(K:V->List (Nat×O)->Option O->Option R):Option R:=
 match qek C.T ty with
 | none=>none
 | some (e,ee)=>
  match ee.sh with
  | none=>none
  | some s=>
   match decSl h s y with
   | none=>none
   | some ys=>
    match x with
    | .slc o ver=>
     match getO h o with
     | .row fz ver' e' s' xs=>
      bif Nat.beq ver ver' && !fz&&Nat.beq e e' then
       match qbn (s:=.sl s') (s':=.sl s) xs with
       | none=>none
       | some xs=>K (.int .i64 ((Nat.min ys.length xs.length:Nat):Int)) [(o,.row false ver' e s (cpy xs ys))] none
      else none
     | _=>none
    | .tl o _ a=>
     match getO h o with
     | .cells vs=>
      bif Nat.beq s.n 1&&(Nat.ble (a % 1000000+a / 1000000) vs.length&&Nat.ble 1 (a / 1000000)) then
       match qfC [] s (a / 1000000) ((vs.drop (a % 1000000)).take (a / 1000000)) with
       | none=>none
       | some old=>K (.int .i64 ((Nat.min ys.length old.length:Nat):Int)) [(o,.cells (vs.take (a % 1000000)++unL s (cpy old ys) (a / 1000000) 0++vs.drop (a % 1000000+a / 1000000)))] none
      else none
     | _=>none
    | _=>none
def isDel(c:Call):Bool:=match c.callee with | .builtin b=>(match b with | .delete=>true | _=>false) | _=>false
def isClr(c:Call):Bool:=match c.callee with | .builtin b=>(match b with | .clear=>true | _=>false) | _=>false
def qxF(c:Call):Bool:=match c.callee with | .builtin b=>(match b with | .copy=>true | _=>false) | _=>false
def evS(C:Ctx)(o:Op)(t:Nat->V)(h:List O)(nid:Nat)(K:V->List (Nat×O)->Option O->Option R):Option R:=
 match o with
 | .alloc e=>
  match tlook C.T e with
  | none=>none
  | some te=>K (.ptr nid 0) [] (some (.cells te.zero))
 | .box _ x=>bif (ev t x).okStore then K (.ptr nid 0) [] (some (.cells (ev t x).cells)) else none
 | .buildSlice ty n ps=>qdS C t h nid ty n ps.toList K
 | .makeSlice ty l c=>qfN C nid ty (ev t l) (ev t c) K
 | .store ty a x=>qrn C h ty (ev t a) (ev t x) K
 | .makeMap ty rs=>qjV C nid ty (rs.map (ev t)) K
 | .mapUpdate ty m k x=>
  match qnC C.T ty with
  | some _=>qgc C h ty (ev t m) (ev t k) (ev t x) K
  | none=>qeF C h ty (ev t m) (ev t k) (ev t x) K
 | .insert ty m k x=>qeF C h ty (ev t m) (ev t k) (ev t x) K
 | .mapEntry ty m k=>qgd C h ty (ev t m) (ev t k) K
 | .entryStore ty m s x=>qeK C h ty (ev t m) (ev t s) (ev t x) K
 | .range ty x=>
  match qnC C.T ty with
  | some _=>qpi C h nid ty (ev t x) K
  | none=>qrw C h nid ty (ev t x) K
 | .call c=>
  bif isDel c then
   match c.args[0]?,c.args[1]?,c.argTypes[0]? with
   | some x,some y,some ty=>qnf C h ty (ev t x) (ev t y) K
   | _,_,_=>none
  else bif isClr c then
   match c.args[0]?,c.argTypes[0]? with
   | some x,some ty=>match mapTy C.T ty with | some _=>qrZ C h ty (ev t x) K | none=>qjG C h ty (ev t x) K
   | _,_=>none
  else
  match c.args[0]?,c.args[1]?,c.argTypes[0]?,c.argTypes[1]? with
  | some x,some y,some ty,some ty'=>bif Nat.beq ty ty' then (bif qxF c then copyK C h ty (ev t x) (ev t y) K else qnr C h nid ty (ev t x) (ev t y) K) else none
  | _,_,_,_=>none
 | _=>none
def isS:Op->Bool
 | .alloc _=>true
 | .box _ _=>true
 | .buildSlice _ _ _=>true
 | .makeSlice _ _ _=>true
 | .store _ _ _=>true
 | .makeMap _ _=>true
 | .mapUpdate _ _ _ _=>true
 | .insert _ _ _ _=>true
 | .mapEntry _ _ _=>true
 | .entryStore _ _ _ _=>true
 | .range _ _=>true
 | .call c=>match c.callee with | .builtin b=>(match b with | .append=>true | .copy=>true | .delete=>true | .clear=>true | _=>false) | _=>false
 | _=>false
mutual
def noRef(i n:Nat):V->Bool
 | .slc o _=>!Nat.beq o i && !Nat.beq o n
 | .ptr o _=>!Nat.beq o i && !Nat.beq o n
 | .rptr o _ _ _=>!Nat.beq o i && !Nat.beq o n
 | .tl o _ _=>!Nat.beq o i && !Nat.beq o n
 | .ifc _ v=>noRef i n v
 | .clo _ vs=>qko i n vs
 | .agg vs=>qko i n vs
 | .tup vs=>qko i n vs
 | _=>true
def qko(i n:Nat):List V->Bool
 | []=>true
 | v :: vs=>noRef i n v&&qko i n vs
end
def qxv(i n:Nat):O->Bool
 | .cells vs=>qko i n vs
 | .kds _ _ _ (some x) _=>noRef i n x.2
 | _=>true
def qvo(C:Ctx)(h:List O)(f:Nat)(o ver:Nat)(q:Nst)(d:q.sh.den)(i:Nat)(args:List V)(K:V->List O->Option R):Option R:=none
def qAj(h:List O):List V->Option ((Nat×Nat×(Σ q:Nst,q.sh.den)×Nat)×List V)
 | []=>none
 | x :: r=>
  match kidAt h x with
  | none=>none
  | some k=>some (k,r)
def qvl(C:Ctx)(h:List O)(f:V)(args:List V)(K:V->List O->Option R):Option R:=
 match f with
 | .clo g caps=>
  match C.G (tgtF g) (argsF g args caps) h with
  | some p=>p.r.bind fun a=>p.sp R a fun a=>K (p.v a) (match p.h with | none=>h | some u=>u a h)
  | none=>
   match qAj h (argsF g args caps) with
   | some ((o,ver,⟨q,d⟩,i),r)=>qvo C h (tgtF g) o ver q d i r K
   | none=>none
 | _=>none
mutual
def qjg:V->Bool
 | .slc _ _=>false
 | .ptr _ _=>false
 | .rptr _ _ _ _=>false
 | .tl _ _ _=>false
 | .ifc _ v=>qjg v
 | .clo _ vs=>qkO vs
 | .agg vs=>qkO vs
 | .tup vs=>qkO vs
 | _=>true
def qkO:List V->Bool
 | []=>true
 | v :: vs=>qjg v&&qkO vs
end
def refTo(id:Nat):O->V
 | .oth _ _ _=>.ptr id 1000000
 | .kds _ _ _ _ _=>.rptr id 0 0 2000000
 | .cells _=>.ptr id 0
 | _=>.slc id 0
def callN(C:Ctx)(f:V)(args:List V)(K:O->Option R):Option R:=
 match f with
 | .clo g caps=>
  bif qkO (argsF g args caps) then
   match C.G (tgtF g) (argsF g args caps) [] with
   | none=>none
   | some p=>
    match p.h with
    | none=>none
    | some u=>p.r.bind fun a=>p.sp R a fun a=>
     match u a [],p.v a with
     | [.row false 0 e s xs],.slc 0 0=>K (.row false 0 e s xs)
     | [.oth false q d],.ptr 0 1000000=>K (.oth false q d)
     | _,_=>none
  else none
 | _=>none
def takeO(C:Ctx)(o:Op)(t:Nat->V)(h:List O)(nid:Nat):Option (Bool×List (Nat×O)×O):=
 match o with
 | .lookup ty x i false=>
  match ev t x with
  | .ptr ob _=>
   match getO h ob with
   | .kds ver (.map kt et k) (.row e s) none d=>
    bif qxD C.T ty kt et k s then
     match decV k (ev t i) with
     | some y=>some (true,[(ob,.kds ver (.map kt et k) (.row e s) (some (y,.bad)) d)],.row false 0 e s (mpGet k (.sl s) d y))
     | none=>none
    else none
   | _=>none
  | _=>none
 | .load ty x=>
  match ev t x with
  | .rptr ob ver i 0=>
   match getO h ob with
   | .kds ver' (.row e) kt none d=>
    bif Nat.beq ver ver' then
     match tlook C.T ty with
     | none=>none
     | some te=>
      bif Nat.beq te.size 1 && !te.isAgg then
       match qpH kt (nth kt.sh.zero d i) with
       | some x=>some (kidGo kt (nth kt.sh.zero d i),[(ob,.kds ver' (.row e) kt (some ((i:Int),refTo nid x)) d)],x)
       | none=>none
      else none
    else none
   | _=>none
  | _=>none
 | _=>none
def dropO(C:Ctx)(o:Op)(t:Nat->V)(h:List O):Option (Bool×V×Nat×O):=none
def qsd(C:Ctx)(o:Op)(t:Nat->V)(h:List O)(K:V->List O->Option R)(K':Option R):Option R:=K'
def evW(C:Ctx)(o:Op)(t:Nat->V)(h:List O)(K:V->List O->Option R):Option R:=
 bif isS o then evS C o t h h.length fun v ss mk=>K v (qai ss h++mk.toList)
 else
  match callT C.T t o with
  | some p=>qvl C h p.1 p.2 K
  | none=>
   match takeO C o t h h.length with
   | some p=>bif p.1 then K (refTo h.length p.2.2) (qai p.2.1 h ++ [p.2.2]) else none
   | none=>
    match dropO C o t h with
    | some p=>bif p.1 then K p.2.1 (h.set p.2.2.1 p.2.2.2) else none
    | none=>qsd C o t h K (evR C o t h fun v=>K v h)
inductive Md where
 | pure
 | rd (ids:List Nat)
 | wr (ids:List Nat)
 | new (id:Nat)
 | full
def memN(ids:List Nat)(i:Nat):Bool:=ids.any (Nat.beq i)
def onlyF(p:Nat->Bool):Nat->List O->List O
 | _,[]=>[]
 | i,o :: r=>(bif p i then o else .none) :: onlyF p (i+1) r
mutual
def qcu(ids:List Nat):V->Bool
 | .slc o _=>memN ids o
 | .ptr o _=>memN ids o
 | .rptr o _ _ _=>memN ids o
 | .tl o _ _=>memN ids o
 | .ifc _ v=>qcu ids v
 | .clo _ vs=>qbs ids vs
 | .agg vs=>qbs ids vs
 | .tup vs=>qbs ids vs
 | _=>true
def qbs(ids:List Nat):List V->Bool
 | []=>true
 | v :: vs=>qcu ids v&&qbs ids vs
end
def clsd(ids:List Nat)(h:List O):Bool:=h.all fun o=>match o with | .cells vs=>qbs ids vs | .kds _ _ _ (some x) _=>qcu ids x.2 | _=>true
def qkQ(p:Nat->Bool):Nat->List O->Bool
 | _,[]=>true
 | i,o :: r=>(p i||(match o with | .none=>true | _=>false))&&qkQ p (i+1) r
def mixF(p:Nat->Bool):Nat->List O->List O->List O
 | i,a :: as,b :: bs=>(bif p i then a else b) :: mixF p (i+1) as bs
 | _,_,_=>[]
def callS(C:Ctx)(h:List O)(ids:List Nat)(f:V)(args:List V)(K:V->List O->Option R):Option R:=
 match f with
 | .clo g caps=>
  bif qbs ids (argsF g args caps)&&clsd ids (onlyF (memN ids) 0 h) then
   match C.G (tgtF g) (argsF g args caps) (onlyF (memN ids) 0 h) with
   | none=>none
   | some p=>
    match p.h with
    | none=>none
    | some u=>p.r.bind fun a=>p.sp R a fun a=>
     match u a (onlyF (memN ids) 0 h) with
     | h'=>bif Nat.beq h'.length h.length&&qkQ (memN ids) 0 h' then K (p.v a) (mixF (memN ids) 0 h' h) else none
  else none
 | _=>none
def qCP(ids:List Nat)(ss:List (Nat×O)):Bool:=ss.all fun p=>memN ids p.1
def evM(C:Ctx)(o:Op)(t:Nat->V)(h:List O)(md:Md)(K:V->List O->Option R):Option R:=
 match md with
 | .pure=>evR C o t [] fun v=>K v h
 | .rd ids=>evR C o t (onlyF (memN ids) 0 h) fun v=>K v h
 | .wr ids=>bif isS o then evS C o t (onlyF (memN ids) 0 h) 0 fun v ss mk=>match mk with | none=>bif qCP ids ss then K v (qai ss h) else none | some _=>none
  else
   match callT C.T t o with
   | some p=>callS C h ids p.1 p.2 K
   | none=>
    match takeO C o t (onlyF (memN ids) 0 h) (ids.headD 0) with
    | some p=>
     match getO h (ids.headD 0) with
     | .none=>bif memN ids (ids.headD 0)&&(Nat.blt (ids.headD 0) h.length&&qCP ids p.2.1) then (bif p.1 then K (refTo (ids.headD 0) p.2.2) ((qai p.2.1 h).set (ids.headD 0) p.2.2) else none) else none
     | _=>none
    | none=>
     match dropO C o t (onlyF (memN ids) 0 h) with
     | some p=>bif memN ids p.2.2.1&&p.1 then K p.2.1 (h.set p.2.2.1 p.2.2.2) else none
     | none=>none
 | .new id=>bif isS o then evS C o t [] id fun v ss mk=>match ss with | []=>(match mk with | some x=>(match getO h id with | .none=>bif Nat.blt id h.length then K v (h.set id x) else none | _=>none) | none=>none) | _ :: _=>none
  else
   match callT C.T t o with
   | some p=>callN C p.1 p.2 fun x=>match getO h id with | .none=>bif Nat.blt id h.length then K (refTo id x) (h.set id x) else none | _=>none
   | none=>none
 | .full=>evW C o t h K
def putD(n:Nat)(dst:Option Tmp)(v:V)(t:Slots)(K:Slots->Option R):Option R:=
 match dst with
 | none=>K t
 | some d=>bif Nat.blt d n then K ((d,v) :: t) else none
def dstOf(ops:List Oper)(j:Nat):Option Tmp:=
 match ops[j]? with
 | some o=>o.dst
 | none=>none
def opsK(C:Ctx)(all:List Oper):List Oper->List Md->Slots->List O->(Slots->List O->Option R)->Option R
 | [],_,t,h,K=>K t h
 | o :: r,mds,t,h,K=>
  match o.guard with
  | none=>evM C o.op (look t) h (mds.headD .full) fun v h=>putD C.n o.dst v t fun t=>opsK C all r mds.tail t h K
  | some (j,want)=>
   match dstOf all j with
   | none=>none
   | some d=>
    match look t d with
    | .bool b=>
     bif b then
      (bif want then evM C o.op (look ((d,.bool true) :: t)) h (mds.headD .full) fun v h=>putD C.n o.dst v ((d,.bool true) :: t) fun t=>opsK C all r mds.tail t h K
      else putD C.n o.dst .undef ((d,.bool true) :: t) fun t=>opsK C all r mds.tail t h K)
     else
      (bif want then putD C.n o.dst .undef ((d,.bool false) :: t) fun t=>opsK C all r mds.tail t h K
      else evM C o.op (look ((d,.bool false) :: t)) h (mds.headD .full) fun v h=>putD C.n o.dst v ((d,.bool false) :: t) fun t=>opsK C all r mds.tail t h K)
    | .undef=>putD C.n o.dst .undef t fun t=>opsK C all r mds.tail t h K
    | _=>none
def qrz(o:Op):List Nat:=o.operands.toList.filterMap fun | .tmp t=>some t | _=>none
def qxH(all:List Oper)(o:Oper):List Nat:=
 match o.guard with
 | none=>[]
 | some (j,_)=>(dstOf all j).toList
def reads(all:List Oper)(o:Oper):List Nat:=qxH all o++qrz o.op
def disj(a b:List Nat):Bool:=a.all fun x=>!memN b x
def mdOk:Md->Md->Bool
 | .pure,_=>true
 | _,.pure=>true
 | .rd _,.rd _=>true
 | .rd a,.wr b=>disj b a
 | .wr a,.rd b=>disj a b
 | .rd a,.new i=>!memN a i
 | .new i,.rd a=>!memN a i
 | .wr a,.wr b=>disj a b&&disj b a
 | .wr a,.new i=>!memN a i
 | .new i,.wr a=>!memN a i
 | .new i,.new j=>!Nat.beq i j
 | _,_=>false
def qzd(a b:Option Tmp):Bool:=
 match a,b with
 | some x,some y=>!Nat.beq x y
 | _,_=>true
def notIn(a:Option Tmp)(l:List Nat):Bool:=
 match a with
 | some x=>!memN l x
 | none=>true
def qwv(a:Oper)(ma:Md)(b:Oper)(mb:Md):Bool:=
 match a.op with
 | .lookup _ _ _ false=>
  match a.guard with
  | some _=>false
  | none=>
   match b.op with
   | .mapEntry _ _ _=>
    match b.guard with
    | some _=>false
    | none=>
     match ma with
     | .rd _=>(match mb with | .wr _=>true | _=>false)
     | _=>false
   | _=>false
 | _=>false
def qrm(all:List Oper)(a:Oper)(ma:Md)(b:Oper)(mb:Md):Bool:=
 qzd a.dst b.dst&&notIn a.dst (reads all b)&&notIn b.dst (reads all a)&&(mdOk ma mb||qwv a ma b mb)
def needs(masks:List Nat)(o:Oper):Nat:=
 o.after.toList.foldl (fun s e=>bif Region.binds .any e then s ||| 2 ^ e.on ||| masks.getD e.on 0 else s) 0
def qto(all:List Oper):List Oper->List Md->(i:Nat)->(masks:List Nat)->(before:List (Oper×Md))->Bool
 | [],_,_,_,_=>true
 | o :: r,mds,i,masks,bef=>
  match needs masks o with
  | m=>(o.after.toList.all fun e=>!Region.binds .any e||Nat.blt e.on i)&&((bef.zipIdx.all fun p=>m.testBit p.2||qrm all p.1.1 p.1.2 o (mds.headD .full)) &&
   qto all r mds.tail (i+1) (masks ++ [m]) (bef ++ [(o,mds.headD .full)]))
def qDa(ops:List Oper)(mds:List Md):Bool:=qto ops ops mds 0 [] []
def panQ(C:Ctx)(t:Nat->V)(h:List O)(o:Op):Option XPkg:=
 match o with
 | .call c=>
  match c.callee with
  | .value f=>
   match ev t f with
   | .clo g caps=>C.X (tgtF g) (argsF g (c.args.toList.map (ev t)) caps) h
   | _=>none
  | _=>none
 | _=>none
def panR(C:Ctx)(all:List Oper)(mds:List Md)(t:Slots)(h:List O)(K:TypeId->List O->Option R)(k:Option R):List Nat->Option R
 | []=>k
 | i :: is=>
  match all[i]? with
  | none=>none
  | some o=>
   match o.guard with
   | some _=>none
   | none=>
    opsK C all (all.take i) mds t h fun t1 h1=>
     match panQ C (look t1) h1 o.op with
     | none=>none
     | some p=>p.r.bind fun y=>caseD y (fun _=>panR C all mds t h K k is) (fun _=>K p.ty p.h)
def thrR(C:Ctx)(all:List Oper)(t:Slots)(h:List O)(K:TypeId->List O->Option R):Option R:=
 match all.getLast? with
 | some o=>
  match o.guard with
  | some _=>none
  | none=>
   match o.op with
   | .panic x=>
    opsK C all (all.take (all.length - 1)) [] t h fun t1 h1=>
     match ev (look t1) x with
     | .ifc ty (.agg [])=>K ty h1
     | _=>none
   | _=>none
 | none=>none
def dropT(all:List Oper)(t:Slots):Slots:=t.filter fun p=>!memN (all.filterMap (·.dst)) p.1
def tame(n:Nat)(o:Oper):Bool:=
 (match o.guard with | none=>true | some _=>false)&&((match o.op with | .move _=>true | .assign _=>true | _=>false)&&(match o.dst with | some d=>Nat.blt d n | none=>true))
def isRd:Md->Bool
 | .pure=>true
 | .rd _=>true
 | _=>false
def qpk(n:Nat)(is:List Nat)(p:Nat)(o:Oper)(m:Md)(i:Nat)(o':Oper)(m':Md):Bool:=
 (bif memN is i then isRd m&&(match o.dst with | some d=>!memN (qrz o'.op) d | none=>true) else true) &&
 (bif memN is p then tame n o'&&isRd m'&&(match o'.dst with | some d=>!memN (qrz o.op) d | none=>true) else true)
def qxr(n:Nat)(is:List Nat):List Oper->List Md->(i:Nat)->(masks:List Nat)->(before:List (Oper×Md))->Bool
 | [],_,_,_,_=>true
 | o :: r,mds,i,masks,bef=>
  match needs masks o with
  | m=>(o.after.toList.all fun e=>!Region.binds .any e||Nat.blt e.on i)&&((bef.zipIdx.all fun p=>m.testBit p.2||qpk n is p.2 p.1.1 p.1.2 i o (mds.headD .full)) &&
   qxr n is r mds.tail (i+1) (masks ++ [m]) (bef ++ [(o,mds.headD .full)]))
inductive Ctl where
 | normal
 | exit (id:Nat)
 | ret
 | pan (ty:TypeId)
inductive VP where
 | bad
 | undef
 | nil
 | nl (k:Nl)
 | ifc (ty:TypeId) (p:VP)
 | int (k:IntKind)
 | bool
 | sl (s:Sh)
 | fptr (s:Sh)
 | slc (o ver:Nat)
 | ptr (o off:Nat)
 | rptr (o ver off:Nat)
 | tl (o ver:Nat)
 | clo (f:Nat) (ps:List VP)
 | agg (ps:List VP)
 | tup (ps:List VP)
inductive OP where
 | none
 | cells (ps:List VP)
 | row (fz:Bool) (ver:Nat) (e:TypeId) (s:Sh)
 | oth (fz:Bool) (q:Oth)
 | nst (ver:Nat) (q:Nst)
 | kds (ver:Nat) (p:Kp) (t:Kt)
 | gone
structure Pat where
 t:List (Nat×VP)
 o:List OP
def Pat.ks(P:Pat):List Nat:=P.t.map (·.1)
inductive Dy where
 | int (n:Int)
 | bool (b:Bool)
 | sl (s:Sh) (xs:List s.den)
 | dat (s:Sh) (x:s.den)
 | nat (n:Nat)
inductive Lf where
 | int
 | bool
 | sl (s:Sh)
 | dat (s:Sh)
 | nat
@[reducible] def Lf.den:Lf->Type
 | .int=>Int
 | .bool=>Bool
 | .sl s=>List s.den
 | .dat s=>s.den
 | .nat=>Nat
@[reducible] def Tup:List Lf->Type
 | []=>Unit
 | a :: r=>
  match r with
  | []=>a.den
  | _ :: _=>a.den×Tup r
def Lf.dec(l:Lf)(d:Dy):Option l.den:=
 match l with
 | .int=>match d with | .int n=>some n | _=>none
 | .bool=>match d with | .bool b=>some b | _=>none
 | .sl s=>match d with | .sl s' xs=>qbn (s:=.sl s') (s':=.sl s) xs | _=>none
 | .dat s=>match d with | .dat s' x=>qbn (s:=s') (s':=s) x | _=>none
 | .nat=>match d with | .nat n=>some n | _=>none
def Lf.enc(l:Lf)(x:l.den):Dy:=
 match l with
 | .int=>.int x
 | .bool=>.bool x
 | .sl s=>.sl s x
 | .dat s=>.dat s x
 | .nat=>.nat x
def decT:(l:List Lf)->List Dy->Option (Tup l)
 | [],ds=>match ds with | []=>some () | _ :: _=>none
 | a :: r,ds=>
  match ds with
  | []=>none
  | d :: ds=>
   match r with
   | []=>match ds with | []=>a.dec d | _ :: _=>none
   | b :: r=>
    match a.dec d with
    | none=>none
    | some x=>
     match decT (b :: r) ds with
     | none=>none
     | some y=>some (x,y)
def encT:(l:List Lf)->Tup l->List Dy
 | [],_=>[]
 | a :: r,x=>
  match r with
  | []=>[a.enc x]
  | b :: r=>a.enc x.1 :: encT (b :: r) x.2
mutual
def lfV:VP->List Lf
 | .int _=>[.int]
 | .bool=>[.bool]
 | .sl s=>[.sl s]
 | .fptr s=>[.dat s]
 | .rptr _ _ _=>[.nat]
 | .tl _ _=>[.nat]
 | .ifc _ p=>lfV p
 | .clo _ ps=>lfVs ps
 | .agg ps=>lfVs ps
 | .tup ps=>lfVs ps
 | _=>[]
def lfVs:List VP->List Lf
 | []=>[]
 | p :: r=>lfV p++lfVs r
end
mutual
def rdV:VP->V->Option (List Dy)
 | .bad,v=>match v with | .bad=>some [] | _=>none
 | .undef,v=>match v with | .undef=>some [] | _=>none
 | .nil,v=>match v with | .nil=>some [] | _=>none
 | .nl k,v=>match v with | .nl k'=>bif decide (k=k') then some [] else none | _=>none
 | .ifc ty p,v=>match v with | .ifc ty' u=>bif Nat.beq ty ty' then rdV p u else none | _=>none
 | .int k,v=>match v with | .int k' n=>if k=k' then some [.int n] else none | _=>none
 | .bool,v=>match v with | .bool b=>some [.bool b] | _=>none
 | .sl s,v=>match v with | .sl s' xs=>(match qbn (s:=.sl s') (s':=.sl s) xs with | some ys=>some [.sl s ys] | none=>none) | _=>none
 | .fptr s,v=>match v with | .fptr s' x=>(match qbn (s:=s') (s':=s) x with | some y=>some [.dat s y] | none=>none) | _=>none
 | .slc o ver,v=>match v with | .slc o' ver'=>bif Nat.beq o o'&&Nat.beq ver ver' then some [] else none | _=>none
 | .ptr o off,v=>match v with | .ptr o' off'=>bif Nat.beq o o'&&Nat.beq off off' then some [] else none | _=>none
 | .rptr o ver off,v=>match v with | .rptr o' ver' i off'=>bif Nat.beq o o'&&(Nat.beq ver ver'&&Nat.beq off off') then some [.nat i] else none | _=>none
 | .tl o ver,v=>match v with | .tl o' ver' i=>bif Nat.beq o o'&&Nat.beq ver ver' then some [.nat i] else none | _=>none
 | .clo f ps,v=>match v with | .clo f' vs=>bif Nat.beq f f' then rdVs ps vs else none | _=>none
 | .agg ps,v=>match v with | .agg vs=>rdVs ps vs | _=>none
 | .tup ps,v=>match v with | .tup vs=>rdVs ps vs | _=>none
def rdVs:List VP->List V->Option (List Dy)
 | [],vs=>match vs with | []=>some [] | _ :: _=>none
 | p :: ps,vs=>
  match vs with
  | []=>none
  | v :: vs=>
   match rdV p v with
   | none=>none
   | some xs=>
    match rdVs ps vs with
    | none=>none
    | some ys=>some (xs++ys)
end
mutual
def mkV:VP->List Dy->V×List Dy
 | .bad,ds=>(.bad,ds)
 | .undef,ds=>(.undef,ds)
 | .nil,ds=>(.nil,ds)
 | .nl k,ds=>(.nl k,ds)
 | .ifc ty p,ds=>match mkV p ds with | (u,r)=>(.ifc ty u,r)
 | .int k,ds=>match ds with | .int n :: r=>(.int k n,r) | _=>(.bad,[])
 | .bool,ds=>match ds with | .bool b :: r=>(.bool b,r) | _=>(.bad,[])
 | .sl _,ds=>match ds with | .sl s xs :: r=>(.sl s xs,r) | _=>(.bad,[])
 | .fptr _,ds=>match ds with | .dat s x :: r=>(.fptr s x,r) | _=>(.bad,[])
 | .slc o ver,ds=>(.slc o ver,ds)
 | .ptr o off,ds=>(.ptr o off,ds)
 | .rptr o ver off,ds=>match ds with | .nat i :: r=>(.rptr o ver i off,r) | _=>(.bad,[])
 | .tl o ver,ds=>match ds with | .nat i :: r=>(.tl o ver i,r) | _=>(.bad,[])
 | .clo f ps,ds=>match mkVs ps ds with | (vs,r)=>(.clo f vs,r)
 | .agg ps,ds=>match mkVs ps ds with | (vs,r)=>(.agg vs,r)
 | .tup ps,ds=>match mkVs ps ds with | (vs,r)=>(.tup vs,r)
def mkVs:List VP->List Dy->List V×List Dy
 | [],ds=>([],ds)
 | p :: ps,ds=>match mkV p ds with | (v,r)=>(match mkVs ps r with | (vs,r)=>(v :: vs,r))
end
def lfO:OP->List Lf
 | .none=>[]
 | .cells ps=>lfVs ps
 | .row _ _ _ s=>[.sl s]
 | .oth _ q=>[.dat q.sh]
 | .nst _ q=>[.dat q.sh]
 | .kds _ p t=>[.dat (p.sh t)]
 | .gone=>[]
def rdO:OP->O->Option (List Dy)
 | .none,o=>match o with | .none=>some [] | _=>none
 | .cells ps,o=>match o with | .cells vs=>rdVs ps vs | _=>none
 | .row fz ver e s,o=>
  match o with
  | .row fz' ver' e' s' xs=>bif (fz==fz')&&(Nat.beq ver ver'&&Nat.beq e e') then (match qbn (s:=.sl s') (s':=.sl s) xs with | some ys=>some [.sl s ys] | none=>none) else none
  | _=>none
 | .oth fz q,o=>
  match o with
  | .oth fz' q' d=>bif (fz==fz')&&decide (q'=q) then (match qbn (s:=q'.sh) (s':=q.sh) d with | some ys=>some [.dat q.sh ys] | none=>none) else none
  | _=>none
 | .nst ver q,o=>
  match o with
  | .nst ver' q' d=>bif Nat.beq ver ver'&&decide (q'=q) then (match qbn (s:=q'.sh) (s':=q.sh) d with | some ys=>some [.dat q.sh ys] | none=>none) else none
  | _=>none
 | .kds ver p t,o=>
  match o with
  | .kds ver' p' t' hl d=>
   match hl with
   | some _=>none
   | none=>bif Nat.beq ver ver'&&(decide (p'=p)&&decide (t'=t)) then (match qbn (s:=p'.sh t') (s':=p.sh t) d with | some ys=>some [.dat (p.sh t) ys] | none=>none) else none
  | _=>none
 | .gone,o=>match o with | .gone=>some [] | _=>none
def mkO:OP->List Dy->O×List Dy
 | .none,ds=>(.none,ds)
 | .cells ps,ds=>match mkVs ps ds with | (vs,r)=>(.cells vs,r)
 | .row fz ver e _,ds=>match ds with | .sl s xs :: r=>(.row fz ver e s xs,r) | _=>(.none,[])
 | .oth fz q,ds=>match ds with | .dat s x :: r=>(match qbn (s:=s) (s':=q.sh) x with | some y=>(.oth fz q y,r) | none=>(.none,[])) | _=>(.none,[])
 | .nst ver q,ds=>match ds with | .dat s x :: r=>(match qbn (s:=s) (s':=q.sh) x with | some y=>(.nst ver q y,r) | none=>(.none,[])) | _=>(.none,[])
 | .kds ver p t,ds=>match ds with | .dat s x :: r=>(match qbn (s:=s) (s':=p.sh t) x with | some y=>(.kds ver p t none y,r) | none=>(.none,[])) | _=>(.none,[])
 | .gone,ds=>(.gone,ds)
def lfT:List (Nat×VP)->List Lf
 | []=>[]
 | p :: r=>lfV p.2++lfT r
def lfH:List OP->List Lf
 | []=>[]
 | p :: r=>lfO p++lfH r
def rdT:List (Nat×VP)->Slots->Option (List Dy)
 | [],t=>match t with | []=>some [] | _ :: _=>none
 | p :: ps,t=>
  match t with
  | []=>none
  | u :: t=>
   bif Nat.beq p.1 u.1 then
    match rdV p.2 u.2 with
    | none=>none
    | some xs=>
     match rdT ps t with
     | none=>none
     | some ys=>some (xs++ys)
   else none
def rdH:List OP->List O->Option (List Dy)
 | [],h=>match h with | []=>some [] | _ :: _=>none
 | p :: ps,h=>
  match h with
  | []=>none
  | o :: h=>
   match rdO p o with
   | none=>none
   | some xs=>
    match rdH ps h with
    | none=>none
    | some ys=>some (xs++ys)
def mkT:List (Nat×VP)->List Dy->Slots×List Dy
 | [],ds=>([],ds)
 | p :: ps,ds=>match mkV p.2 ds with | (v,r)=>(match mkT ps r with | (t,r)=>((p.1,v) :: t,r))
def mkH:List OP->List Dy->List O×List Dy
 | [],ds=>([],ds)
 | p :: ps,ds=>match mkO p ds with | (o,r)=>(match mkH ps r with | (h,r)=>(o :: h,r))
def Pat.lf(P:Pat):List Lf:=lfT P.t++lfH P.o
def selL{α:Type}(vs:List Nat)(b:Bool):Nat->List α->List α
 | _,[]=>[]
 | i,x :: r=>bif memN vs i==b then x :: selL vs b (i+1) r else selL vs b (i+1) r
def mixL{α:Type}(vs:List Nat):(n i:Nat)->List α->List α->List α
 | 0,_,_,_=>[]
 | n+1,i,cs,us=>
  bif memN vs i then (match us with | u :: us=>u :: mixL vs n (i+1) cs us | []=>[])
  else (match cs with | c :: cs=>c :: mixL vs n (i+1) cs us | []=>[])
abbrev Pat.C(P:Pat)(vs:List Nat):Type:=Tup (selL vs false 0 P.lf)
abbrev Pat.S(P:Pat)(vs:List Nat):Type:=Tup (selL vs true 0 P.lf)
def rdD(P:Pat)(t:Slots)(h:List O):Option (List Dy):=
 match rdT P.t t with
 | none=>none
 | some xs=>
  match rdH P.o h with
  | none=>none
  | some ys=>some (xs++ys)
def mkD2(P:Pat)(ds:List Dy):Slots×List O:=match mkT P.t ds with | (t,r)=>(t,(mkH P.o r).1)
def rdSt(P:Pat)(vs:List Nat)(t:Slots)(h:List O):Option (P.C vs×P.S vs):=
 match rdD P t h with
 | none=>none
 | some ds=>
  match decT (selL vs false 0 P.lf) (selL vs false 0 ds) with
  | none=>none
  | some c=>
   match decT (selL vs true 0 P.lf) (selL vs true 0 ds) with
   | none=>none
   | some s=>bif Nat.beq ds.length P.lf.length then some (c,s) else none
def mkSt(P:Pat)(vs:List Nat)(s:P.C vs×P.S vs):Slots×List O:=mkD2 P (mixL vs P.lf.length 0 (encT _ s.1) (encT _ s.2))
def rdJ(P:Pat)(t:Slots)(h:List O):Option (Tup P.lf):=
 match rdD P t h with
 | none=>none
 | some ds=>decT P.lf ds
def mkJ(P:Pat)(s:Tup P.lf):Slots×List O:=mkD2 P (encT _ s)
def mskH:List OP->List O->List O
 | [],_=>[]
 | p :: ps,h=>
  match h with
  | []=>[]
  | o :: h=>(match p with | .none=>.none | _=>o) :: mskH ps h
def liveP(ps:List OP)(o:Nat):Bool:=
 match ps[o]? with
 | none=>false
 | some p=>match p with | .none=>false | _=>true
mutual
def refsP(ps:List OP):VP->Bool
 | .slc o _=>liveP ps o
 | .ptr o _=>liveP ps o
 | .rptr o _ _=>liveP ps o
 | .tl o _=>liveP ps o
 | .ifc _ p=>refsP ps p
 | .clo _ vs=>qpd ps vs
 | .agg vs=>qpd ps vs
 | .tup vs=>qpd ps vs
 | _=>true
def qpd(ps:List OP):List VP->Bool
 | []=>true
 | v :: vs=>refsP ps v&&qpd ps vs
end
def refsO(ps:List OP):OP->Bool
 | .cells vs=>qpd ps vs
 | _=>true
def lowP(ps:List OP):Nat->Bool
 | 0=>true
 | n+1=>liveP ps n&&lowP ps n
def patOk(fl:Nat)(P:Pat):Bool:=P.t.all (fun p=>refsP P.o p.2)&&(P.o.all (refsO P.o)&&lowP P.o fl)
def optK{S:Type}(o:Option S)(k:S->Option R):Option R:=
 match o with
 | none=>none
 | some s=>k s
def qiV(k:Slots->List O->Option R)(K:Ctl->Slots->List O->Option R)(c:Ctl)(t:Slots)(h:List O):Option R:=
 match c with
 | .normal=>k t h
 | .exit i=>K (.exit i) t h
 | .ret=>K .ret t h
 | .pan ty=>K (.pan ty) t h
def noPan(K:Ctl->Slots->List O->Option R)(c:Ctl)(t:Slots)(h:List O):Option R:=
 match c with
 | .pan _=>none
 | c=>K c t h
def joinD{S:Type}(f:S->Option R)(g:(S->Option R)->Option R):Option R:=g f
def loopD{S:Type}(f:S->(S->Option R)->Option R):Nat->S->Option R
 | 0,_=>none
 | n+1,s=>f s (loopD f n)
def forD{α S:Type}(f:α->S->(S->Option R)->Option R)(k:S->Option R):List α->S->Option R
 | [],s=>k s
 | x :: xs,s=>f x s (forD f k xs)
def backE{C S:Type}(c:C)(kn:S->Option R)(x:C×S):Option R:=open Classical in if x.1=c then kn x.2 else none
def loopE{C S:Type}(f:C->S->(C×S->Option R)->Option R)(n:Nat)(c:C)(s:S):Option R:=
 loopD (fun s kn=>f c s (backE c kn)) n s
def forE{α C S:Type}(f:C->α->S->(C×S->Option R)->Option R)(k:C->S->Option R)(xs:List α)(c:C)(s:S):Option R:=
 forD (fun y s kn=>f c y s (backE c kn)) (k c) xs s
inductive Ann where
 | none
 | keep (ks:List Nat) (base:Nat) (a:Ann)
 | obj (i:Nat) (e:TypeId) (s:Sh) (a:Ann)
 | objc (o j:Nat) (e:TypeId) (s:Sh) (a:Ann)
 | shut (i:Nat) (a:Ann)
 | shutc (o j:Nat) (a:Ann)
 | nils (i:Nat) (s:Sh) (a:Ann)
 | nilc (o j:Nat) (s:Sh) (a:Ann)
 | draw (c:Nat) (mds:List Md)
 | two (a b:Ann)
 | one (a:Ann)
 | loop (base:Nat) (P:Pat) (vs:List Nat) (a:Ann)
 | each (base:Nat) (P:List OP) (vs:List Nat) (a b:Ann)
 | join (base:Nat) (P:Pat) (a b:Ann)
 | mv (i d:Nat)
 | nx
 | canon (o:Nat) (a:Ann)
 | rv (os:List Nat) (a:Ann)
 | thw (o:Nat) (e:TypeId) (a:Ann)
 | frk (o:Nat) (a:Ann)
 | cls (o:Nat) (a:Ann)
 | los (o:Nat) (a:Ann)
 | frz (o:Nat) (a:Ann)
 | giv (i:Nat) (s:Sh) (a:Ann)
 | kob (i:Nat) (e:TypeId) (t:Kt) (a:Ann)
 | sel (i:Nat) (ty:TypeId) (a b:Ann)
 | pan (is:List Nat) (a:Ann)
 | thr
def Ann.fst:Ann->Ann
 | .two a _=>a
 | _=>.none
def Ann.snd:Ann->Ann
 | .two _ b=>b
 | _=>.none
def Ann.sub:Ann->Ann
 | .one a=>a
 | _=>.none
def ver0(fx:List Nat)(o ver:Nat):Nat:=bif memN fx o then 0 else ver
def cvV(fx:List Nat)(base:Nat)(h:List O):V->V
 | .slc o ver=>
  match getO h o with
  | .row _ ver' _ s xs=>bif Nat.beq ver ver' then (bif Nat.blt o base then .slc o (ver0 fx o ver) else .sl s xs) else .bad
  | _=>.bad
 | .ptr o off=>bif Nat.blt o base then .ptr o off else .bad
 | .rptr o ver i off=>
  match getO h o with
  | .row _ ver' _ _ _=>bif Nat.beq ver ver'&&Nat.blt o base then .rptr o (ver0 fx o ver) i off else .bad
  | .kds ver' (.row _) _ _ _=>bif Nat.beq ver ver'&&Nat.blt o base then .rptr o (ver0 fx o ver) i off else .bad
  | _=>.bad
 | .tl o ver i=>
  match getO h o with
  | .row _ ver' _ s xs=>bif Nat.beq ver ver' then (bif Nat.blt o base then .tl o (ver0 fx o ver) i else .sl s (xs.drop i)) else .bad
  | _=>.bad
 | .ifc ty v=>.ifc ty (cvV fx base h v)
 | .clo f caps=>.clo f (cvL fx base h caps)
 | .agg vs=>.agg (cvL fx base h vs)
 | .tup vs=>.tup (cvL fx base h vs)
 | v=>v
where
 cvL (fx:List Nat) (base:Nat) (h:List O):List V->List V
  | []=>[]
  | v :: r=>cvV fx base h v :: cvL fx base h r
def cvO(fx:List Nat)(base:Nat)(h:List O)(i:Nat):O->O
 | .none=>.none
 | .cells vs=>.cells (vs.map (cvV fx base h))
 | .row fz ver e s xs=>.row fz (ver0 fx i ver) e s xs
 | .oth fz q d=>.oth (fz||memN fx i) q d
 | .nst ver q d=>.nst (ver0 fx i ver) q d
 | .kds ver p t hl d=>.kds (ver0 fx i ver) p t (hmap (fun _=>.bad) hl) d
 | .gone=>.gone
def cvT(fx:List Nat)(ks:List Nat)(base:Nat)(t:Slots)(h:List O):Slots:=ks.map fun k=>(k,cvV fx base h (look t k))
def cvHs(fx:List Nat)(base:Nat)(h:List O):Nat->Nat->List O->List O
 | 0,_,_=>[]
 | _+1,_,[]=>[]
 | n+1,i,o :: r=>cvO fx base h i o :: cvHs fx base h n (i+1) r
def cvH(fx:List Nat)(base:Nat)(h:List O):List O:=cvHs fx base h base 0 h
def stbV(fx:List Nat)(base:Nat):V->Bool
 | .slc o _=>Nat.blt o base && !memN fx o
 | .ptr o _=>Nat.blt o base
 | .rptr o _ _ _=>Nat.blt o base && !memN fx o
 | .tl o _ _=>Nat.blt o base && !memN fx o
 | .ifc _ v=>stbV fx base v
 | .clo _ caps=>stbL fx base caps
 | .agg vs=>stbL fx base vs
 | .tup vs=>stbL fx base vs
 | _=>true
where
 stbL (fx:List Nat) (base:Nat):List V->Bool
  | []=>true
  | v :: r=>stbV fx base v&&stbL fx base r
def stbT(fx:List Nat)(base:Nat)(t:Slots):Bool:=t.all fun p=>stbV fx base p.2
def shutV(h:List O)(v:V):Option (V×List O):=
 match v with
 | .slc r ver=>
  match getO h r with
  | .row _ ver' e s xs=>bif Nat.beq ver ver' then some (.sl s xs,h.set r (.row true ver' e s xs)) else none
  | _=>none
 | .tl r ver i=>
  match getO h r with
  | .row _ ver' e s xs=>bif Nat.beq ver ver' then some (.sl s (xs.drop i),h.set r (.row true ver' e s xs)) else none
  | _=>none
 | _=>none
mutual
def datV(o ver:Nat)(s:Sh)(d:List s.den):V->V
 | .rptr o' ver' i off=>bif Nat.beq o o'&&(Nat.beq ver ver'&&Nat.beq off 2000000) then .sl s d else .rptr o' ver' i off
 | .ifc ty v=>.ifc ty (datV o ver s d v)
 | .clo f vs=>.clo f (datVs o ver s d vs)
 | .agg vs=>.agg (datVs o ver s d vs)
 | .tup vs=>.tup (datVs o ver s d vs)
 | v=>v
def datVs(o ver:Nat)(s:Sh)(d:List s.den):List V->List V
 | []=>[]
 | v :: vs=>datV o ver s d v :: datVs o ver s d vs
end
def datO(o ver:Nat)(s:Sh)(d:List s.den):O->O
 | .cells vs=>.cells (datVs o ver s d vs)
 | x=>x
def prep(C:Ctx):Ann->Slots->List O->Option (Ann×Slots×List O)
 | .keep ks base a,t,h=>bif Nat.ble C.fl base then prep C a (cvT C.fx ks base t h) (cvH C.fx base h) else none
 | .obj i e s a,t,h=>
  match look t i with
  | .nil=>bif Nat.ble 1 s.n then prep C a ((i,.slc h.length 0) :: t) (h ++ [.row false 0 e s []]) else none
  | _=>prep C a t h
 | .objc o j e s a,t,h=>
  match getO h o with
  | .cells vs=>
   match vs[j]? with
   | some .nil=>bif Nat.ble 1 s.n then prep C a t (h.set o (.cells (vs.set j (.slc h.length 0))) ++ [.row false 0 e s []]) else none
   | _=>prep C a t h
  | _=>prep C a t h
 | .shut i a,t,h=>
  match shutV h (look t i) with
  | some p=>prep C a ((i,p.1) :: t) p.2
  | none=>prep C a t h
 | .shutc o j a,t,h=>
  match getO h o with
  | .cells vs=>
   match vs[j]? with
   | some v=>
    match shutV h v with
    | some p=>prep C a t (p.2.set o (.cells (vs.set j p.1)))
    | none=>prep C a t h
   | none=>prep C a t h
  | _=>prep C a t h
 | .canon o a,t,h=>
  match getO h o with
  | .oth fz q d=>bif q.un then prep C a t h else prep C a t (h.set o (.oth fz ⟨q.it,q.kt,q.et,q.k,q.v,true⟩ (qAX q.k q.v d)))
  | _=>prep C a t h
 | .thw o e a,t,h=>
  match getO h o with
  | .oth false q d=>
   match q.v with
   | .sl s=>bif d.2.isEmpty&&(!q.it&&(!q.un&&Nat.ble 1 s.n)) then prep C a t (h.set o (.kds 0 (.map q.kt q.et q.k) (.row e s) none (d.1,[]))) else prep C a t h
   | _=>prep C a t h
  | _=>prep C a t h
 | .frk o a,t,h=>
  match getO h o with
  | .kds _ (.map kt et k) (.row _ s) none d=>prep C a t (h.set o (.oth false ⟨false,kt,et,k,.sl s,false⟩ d))
  | _=>prep C a t h
 | .cls o a,t,h=>
  match getO h o with
  | .kds ver (.row e) kt (some x) d=>
   match qnN x.2 with
   | none=>prep C a t h
   | some n=>
    match qdb kt x.2 (getO h n) with
    | none=>prep C a t h
    | some y=>prep C a t ((h.set n (husk (getO h n))).set o (.kds ver (.row e) kt none (d.set x.1.toNat y)))
  | _=>prep C a t h
 | .los o a,t,h=>
  match getO h o with
  | .kds ver (.row e) kt (some x) d=>
   match kt.lost with
   | some y=>prep C a t (h.set o (.kds ver (.row e) kt none (d.set x.1.toNat y)))
   | none=>prep C a t h
  | _=>prep C a t h
 | .frz o a,t,h=>
  match getO h o with
  | .kds ver (.row _) kt none d=>bif kt.isPl then prep C a (t.map fun p=>(p.1,datV o ver kt.sh d p.2)) ((h.set o .gone).map (datO o ver kt.sh d)) else prep C a t h
  | _=>prep C a t h
 | .giv i s a,t,h=>
  match look t i with
  | .ptr o 0=>
   match getO h o with
   | .cells us=>
    match qea [] s us with
    | some x=>prep C a ((i,.fptr s x) :: t) (h.set o .gone)
    | none=>prep C a t h
   | _=>prep C a t h
  | _=>prep C a t h
 | .kob i e kt a,t,h=>
  match look t i with
  | .nil=>bif Nat.ble 1 kt.n then prep C a ((i,.rptr h.length 0 0 2000000) :: t) (h ++ [.kds 0 (.row e) kt none []]) else none
  | _=>prep C a t h
 | .sel i ty a b,t,h=>
  match look t i with
  | .ifc ty' _=>bif Nat.beq ty ty' then prep C a t h else prep C b t h
  | .ptr _ _=>bif Nat.beq ty 999999999 then prep C a t h else prep C b t h
  | .slc _ _=>bif Nat.beq ty 999999998 then prep C a t h else prep C b t h
  | _=>prep C b t h
 | .nils i s a,t,h=>
  match look t i with
  | .nil=>prep C a ((i,.sl s []) :: t) h
  | _=>prep C a t h
 | .nilc o j s a,t,h=>
  match getO h o with
  | .cells vs=>
   match vs[j]? with
   | some .nil=>prep C a t (h.set o (.cells (vs.set j (.sl s []))))
   | _=>prep C a t h
  | _=>prep C a t h
 | a,t,h=>some (a,t,h)
def setPs(n:Nat):List Tmp->List V->Slots->Option Slots
 | [],[],t=>some t
 | p :: ps,v :: vs,t=>bif Nat.blt p n then setPs n ps vs ((p,v) :: t) else none
 | _,_,_=>none
def mvT(i n d off:Nat)(t:Slots):Slots:=t.map fun p=>(p.1,bif Nat.beq p.1 d then .ptr i off else bif noRef i n p.2 then p.2 else .bad)
def mvH(i n:Nat)(ob:O)(h:List O):List O:=(h.set i ob).take n
def mvK(fl i d:Nat)(t:Slots)(h:List O)(K:Slots->List O->Option R):Option R:=
 match look t d with
 | .ptr n off=>
  match getO h n with
  | .cells vs=>bif Nat.beq off 0&&(Nat.ble fl i&&(Nat.blt i n&&(Nat.beq (n+1) h.length&&(mvH i n (.cells vs) h).all (qxv i n)))) then K (mvT i n d 0 t) (mvH i n (.cells vs) h) else none
  | .oth fz q x=>bif Nat.ble fl i&&(Nat.blt i n&&(Nat.beq (n+1) h.length&&(mvH i n (.oth fz q x) h).all (qxv i n))) then K (mvT i n d 1000000 t) (mvH i n (.oth fz q x) h) else none
  | _=>none
 | _=>none
def anyUs:List Nat->List O->(List O->Option R)->Option R
 | [],h,K=>K h
 | o :: r,h,K=>
  match getO h o with
  | .oth fz q d=>bif q.un then anyU (k:=q.k) (v:=q.v) d fun d'=>anyUs r (h.set o (.oth fz ⟨q.it,q.kt,q.et,q.k,q.v,false⟩ d')) K else anyUs r h K
  | _=>anyUs r h K
def exec:Ctx->Code->Ann->Slots->List O->(Ctl->Slots->List O->Option R)->Option R
 | C,.skip,a,t,h,K=>
  match prep C a t h with
  | none=>none
  | some (_,t,h)=>K .normal t h
 | C,.label _,a,t,h,K=>
  match prep C a t h with
  | none=>none
  | some (_,t,h)=>K .normal t h
 | C,.region _ ops draw,a,t,h,K=>
  match prep C a t h with
  | none=>none
  | some (a,t,h)=>
   bif draw then
    match a with
    | .draw c mds=>bif qDa ops.toList mds then opsK C ops.toList ops.toList mds t (h++List.replicate c .none) fun t h=>K .normal t h else none
    | .pan is a=>
     match a with
     | .draw c mds=>
      bif qDa ops.toList mds&&qxr C.n is ops.toList mds 0 [] [] then
       panR C ops.toList mds t (h++List.replicate c .none) (fun ty h=>K (.pan ty) (dropT ops.toList t) h) (opsK C ops.toList ops.toList mds t (h++List.replicate c .none) fun t h=>K .normal t h) is
      else none
     | _=>none
    | _=>none
   else
    match a with
    | .mv i d=>opsK C ops.toList ops.toList [] t h fun t h=>mvK C.fl i d t h fun t h=>K .normal t h
    | .nx=>
     match ops.toList with
     | []=>none
     | o :: rest=>
      match o.op with
      | .next x false=>
       match o.guard with
       | some _=>none
       | none=>
        match iterAt h (ev (look t) x) with
        | none=>
         match nitAt h (ev (look t) x) with
         | none=>none
         | some (ob,ver,⟨q,d⟩)=>
          nextE (k:=q.k) (v:=q.kd.sh) d
           (putD C.n o.dst (.tup [.bool false]) t fun t=>opsK C ops.toList rest [] t h fun t h=>K .normal t h)
           (fun e r=>putD C.n o.dst (.tup [.bool true,enc q.k e.2.1,.rptr ob (ver+1) 0 1000000]) t fun t=>opsK C ops.toList rest [] t (h.set ob (.nst (ver+1) q ((1:Int),e :: r))) fun t h=>K .normal t h)
        | some (ob,⟨q,d⟩)=>
         nextE (k:=q.k) (v:=q.v) d
          (putD C.n o.dst (.tup [.bool false]) t fun t=>opsK C ops.toList rest [] t h fun t h=>K .normal t h)
          (fun e r=>putD C.n o.dst (.tup [.bool true,enc q.k e.2.1,enc q.v e.2.2]) t fun t=>opsK C ops.toList rest [] t (h.set ob (.oth false q ((1:Int),e :: r))) fun t h=>K .normal t h)
      | _=>none
    | .pan is _=>panR C ops.toList [] t h (fun ty h=>K (.pan ty) (dropT ops.toList t) h) (opsK C ops.toList ops.toList [] t h fun t h=>K .normal t h) is
    | .thr=>thrR C ops.toList t h fun ty h=>K (.pan ty) (dropT ops.toList t) h
    | _=>opsK C ops.toList ops.toList [] t h fun t h=>K .normal t h
 | C,.seq x y,a,t,h,K=>
  match prep C a t h with
  | none=>none
  | some (a,t,h)=>
   match a with
   | .join base P a b=>
    bif Nat.ble C.fl base&&patOk C.fl P then
     joinD (fun s=>exec C y b (mkJ P s).1 (mkJ P s).2 K) fun k=>
      exec C x a t h (qiV (fun t h=>optK (rdJ P (cvT C.fx P.ks base t h) (mskH P.o (cvH C.fx base h))) k) K)
    else none
   | .rv os a=>
    anyUs os h fun h=>exec C x a.fst t h fun c t h=>
     match c with
     | .normal=>exec C y a.snd t h K
     | c=>K c t h
   | a=>
    exec C x a.fst t h fun c t h=>
     match c with
     | .normal=>exec C y a.snd t h K
     | c=>K c t h
 | C,.cond c x y,a,t,h,K=>
  match prep C a t h with
  | none=>none
  | some (a,t,h)=>
   match ev (look t) c with
   | .bool b=>bif b then exec C x a.fst t h K else exec C y a.snd t h K
   | .nlt neg e=>bif e then dem2 (exec C x a.fst t h K) (exec C y a.snd t h K) else bif neg then exec C x a.fst t h K else exec C y a.snd t h K
   | _=>none
 | C,.block id b,a,t,h,K=>
  match prep C a t h with
  | none=>none
  | some (a,t,h)=>
   exec C b a.sub t h fun c t h=>
    match c with
    | .exit i=>bif Nat.beq i id then K .normal t h else K (.exit i) t h
    | c=>K c t h
 | C,.loop b,a,t,h,K=>
  match prep C a t h with
  | none=>none
  | some (a,t,h)=>
   match a with
   | .loop base P vs a=>
    bif Nat.ble C.fl base&&patOk C.fl P then
     match rdSt P vs (cvT C.fx P.ks base t h) (mskH P.o (cvH C.fx base h)) with
     | none=>none
     | some s0=>
      loopE (fun c s kn=>
       exec C b a (mkSt P vs (c,s)).1 (mkSt P vs (c,s)).2 (qiV (fun t h=>optK (rdSt P vs (cvT C.fx P.ks base t h) (mskH P.o (cvH C.fx base h))) kn) K)) C.N s0.1 s0.2
    else none
   | _=>none
 | C,.rangeFunc f ps x b,a,t,h,K=>
  match prep C a t h with
  | none=>none
  | some (a,t,h)=>
   match a with
   | .each base P vs a a'=>
    match ev (look t) f with
    | .clo g caps=>
     match C.I g caps h with
     | none=>none
     | some p=>
      bif p.ok then bif Nat.ble C.fl base&&stbT C.fx base t then
       match rdSt ⟨[],P⟩ vs [] (cvH C.fx base h) with
       | none=>none
       | some s0=>
        forE (fun c y s kn=>optK (setPs C.n ps.toList (p.v y) t) fun t1=>
         exec (C.low base) x a t1 (mkSt ⟨[],P⟩ vs (c,s)).2 (qiV (fun t1 h=>
          exec (C.low base) b a' t1 h fun c _ h=>qiV (fun _ h=>optK (rdSt ⟨[],P⟩ vs [] (cvH C.fx base h)) kn) (noPan K) c t h)
           (fun _ _ _=>none))) (fun c s=>K .normal t (mkSt ⟨[],P⟩ vs (c,s)).2) p.xs s0.1 s0.2
      else none else none
    | _=>none
   | _=>none
 | C,.exit id,a,t,h,K=>
  match prep C a t h with
  | none=>none
  | some (_,t,h)=>K (.exit id) t h
 | C,.scope b,a,t,h,K=>
  match prep C a t h with
  | none=>none
  | some (a,t,h)=>exec C b a.sub t h K
 | C,.ret,a,t,h,K=>
  match prep C a t h with
  | none=>none
  | some (_,t,h)=>K .ret t h
 | _,.goto _,_,_,_,_=>none
 | _,.refuse _,_,_,_,_=>none
end
end Go.Abs
end
