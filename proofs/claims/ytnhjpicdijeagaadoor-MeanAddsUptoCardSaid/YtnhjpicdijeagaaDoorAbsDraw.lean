import Derived.Test.YtnhjpicdijeagaaDoorAbsNat
import Derived.Test.YtnhjpicdijeagaaDoorAbsConv
import Derived.RangeFuncNested
import Derived.RangeFuncLeaves
import Derived.Orders
import Derived.CallsIn
namespace Go.Abs
open Go.RowKit
structure Env where
 P:Program
 C:Ctx
 r:Option Nat
 n:Nat
 w0:World
 A:Nat->Prop
 M0:Nat->Prop
 Kp:List Deferred->World->List O->(Nat->Loc)->Prop
def qqB(F:Fence)(n:Nat)(P:Program)(g:Nat)(lb:Array Value)(xs:List (Array Value))(Kp:World->World->Prop)(w:World):Prop:=
 ∀ (l:Nat) (J:Nat->World->Prop) (Jx:World->Prop) (W:World),Below w.heap.size w W ->
  (∀ i X Y,J i X->Below X.heap.size X Y->J i Y)->(∀ X Y,Jx X->Below X.heap.size X Y->Jx Y) ->
  (∀ i args W1,xs[i]? = some args->J i W1->YieldAt F (n - 1) P l args W1 fun e W'=>(e=.returned (.bool true)/\J (i+1) W'/\Kp W1 W')\/(e=.returned (.bool false)/\Jx W')) ->
  J 0 W->CallsIn F n P (tgtF g) (fstF g lb ++ #[.func (.yield l) #[] #[]]++capF g lb) W fun e W'=>(∃ v,e=.returned v)/\(J xs.length W'\/Jx W')
def qtB(F:Fence)(n:Nat)(P:Program)(g:Nat)(lb:Array Value)(xs:List (Array Value))(M:Nat->Prop)(w:World):Prop:=
 ∀ (l:Nat) (J:World->Nat->World->Prop) (Jx:World->World->Prop) (W:World),Below w.heap.size w W->w.heap.size<=l->l<W.heap.size ->
  (∀ B,Below W.heap.size W B->J B 0 B) ->
  (∀ B i X Y,J B i X->Below X.heap.size X Y->J B i Y)->(∀ B X Y,Jx B X->Below X.heap.size X Y->Jx B Y) ->
  (∀ B i X,J B i X->B.heap.size<=X.heap.size/\∀ b,b<B.heap.size->b≠l->¬ M b->X.heap[b]? = B.heap[b]?) ->
  (∀ B i args X,xs[i]? = some args->J B i X->YieldAt F (n - 1) P l args X fun e W'=>(e=.returned (.bool true)/\J B (i+1) W')\/(e=.returned (.bool false)/\Jx B W')) ->
  CallsIn F n P (tgtF g) (fstF g lb ++ #[.func (.yield l) #[] #[]]++capF g lb) W fun e W'=>(∃ v,e=.returned v)/\∃ B,J B xs.length W'\/Jx B W'
theorem qqB.toO{r:Option Nat}{n:Nat}{P:Program}{g:Nat}{lb:Array Value}{xs:List (Array Value)}{M:Nat->Prop}{w:World}
  (h:qqB (WF r) n P g lb xs (fun X Y=>∀ b,b<w.heap.size->¬ M b->Y.heap[b]? = X.heap[b]?) w):qtB (WF r) n P g lb xs M w:=by
 intro l J Jx W hW hl hl' h0 hg hgx hp hy
 refine CallsIn.mono (F:=WF r) (h l (J W) (Jx W) W hW (hg W) (hgx W) (fun i args X hx hJ=>?_) (h0 W (Below.refl _ _))) ?_
 ·obtain⟨o,tmps,c,w2,hr,hq⟩:=hy W i args X hx hJ
  refine⟨o,tmps,c,w2,hr,hq.mono ?_⟩
  rintro e W' (⟨h5,h6⟩ | h5)
  ·refine .inl ⟨h5,h6,fun b hb hm=>?_⟩
   have hbW:=zM hb hW.size
   rw [(hp W _ _ h6).2 b hbW (by omega) hm,(hp W _ _ hJ).2 b hbW (by omega) hm]
  ·exact .inr h5
 ·rintro e W' ⟨h1,h2⟩
  exact⟨h1,W,h2⟩
def qtC(F:Fence)(n:Nat)(P:Program)(g:Nat)(lb:Array Value){α:Type}(ys:List α)(vv:α->List V)(M M':Nat->Prop)(w:World):Prop:=
 ∀ (l:Nat) (J:World->Nat->World->Prop) (Jx:World->World->Prop) (W:World),Below w.heap.size w W->w.heap.size<=l->l<W.heap.size ->
  (∀ B,Below W.heap.size W B->J B 0 B) ->
  (∀ B i X Y,J B i X->Below X.heap.size X Y->J B i Y)->(∀ B X Y,Jx B X->Below X.heap.size X Y->Jx B Y) ->
  (∀ B i X,J B i X->B.heap.size<=X.heap.size/\∀ b,b<B.heap.size->b≠l->¬ M b->X.heap[b]? = B.heap[b]?) ->
  (∀ B i y args X0 X,ys[i]? = some y->J B i X0->Below X0.heap.size X0 X->RVs X (fun b=>b<X0.heap.size/\(B.heap.size<=b\/M' b\/b=l)) [] σ0 (vv y) args.toList ->
   YieldAt F (n - 1) P l args X fun e W'=>(e=.returned (.bool true)/\J B (i+1) W')\/(e=.returned (.bool false)/\Jx B W')) ->
  CallsIn F n P (tgtF g) (fstF g lb ++ #[.func (.yield l) #[] #[]]++capF g lb) W fun e W'=>(∃ v,e=.returned v)/\∃ B,J B ys.length W'\/Jx B W'
def sv0:V->Value
 | .int k n=>.int k n
 | .bool b=>.bool b
 | _=>undef
def is0:V->Bool
 | .int _ _=>true
 | .bool _=>true
 | _=>false
def svOf:V->Value
 | .agg vs=>.agg (vs.map sv0).toArray
 | .int k n=>.int k n
 | .bool b=>.bool b
 | _=>undef
def isSv:V->Bool
 | .agg vs=>vs.all is0
 | .int _ _=>true
 | .bool _=>true
 | _=>false
structure IOk (P:Program) (C:Ctx):Prop where
 fn : ∀ g caps h p, C.I g caps h = some p → ∃ f c, P.funcs[tgtF g]? = some f ∧ (f.name == "runtime.NumGoroutine") = false ∧ f.body = some c
 it:∀ g caps h p,C.I g caps h=some p->p.ok=true->∀ w0 A M0 w σ,Gl C.gs w0 A->Rep w0 A M0 w h σ->∀ vs,RVs w (mutb M0 h σ) h σ caps vs->∀ r n,
  qtC (WF r) n P g vs.toArray p.xs p.v (own h σ) (mutb M0 h σ) w
abbrev qnK(D:Nat):Deferred:={ target:=.collected D,args:=#[] }
structure Env.Ok (E:Env):Prop where
 types:TOk E.P E.C.T
 calls:GOk E.P E.C
 its:IOk E.P E.C
 xs:XOk E.P E.C
 glob:Gl E.C.gs E.w0 E.A
 mixed:E.P.follows .mixedOrders=true
 kp:∀ ds w h σ w' h' σ',Rep E.w0 E.A E.M0 w h σ->Rep E.w0 E.A E.M0 w' h' σ'->Far E.C.fx E.C.fl E.M0 w h σ E.M0 w' h' σ'->E.Kp ds w h σ->E.Kp ds w' h' σ'
 km:E.r=none->(∃ g caps h p,E.C.I g caps h=some p)->∀ ds w h σ w' h' σ' D,Rep E.w0 E.A E.M0 w h σ->Rep E.w0 E.A E.M0 w' h' σ'->Far E.C.fx E.C.fl E.M0 w h σ E.M0 w' h' σ'->E.Kp ds w h σ->w.heap.size<=D->w'.heap[D]? = some (.deferred (some []))->E.Kp (qnK D :: ds) w' h' σ'
 kl:∀ l,E.r=some l->∀ ds w h σ,E.Kp ds w h σ->∃ rc,w.heap[l]? = some (.loop rc)
theorem XOk.none{P:Program}{C:Ctx}(h:C.X=fun _ _ _=>Option.none):XOk P C:=⟨fun _ _ _ _ hp=>(by rw [h] at hp;cases hp),fun _ _ _ _ _ hp=>(by rw [h] at hp;cases hp)⟩
def At(E:Env)(s:S)(a:Act)(w:World):Prop:=
 ∃ σ,Rep E.w0 E.A E.M0 w s.2 σ/\(∀ i,RV w (mutb E.M0 s.2 σ) s.2 σ (s.1 i) (a.tmps.getD i undef))/\a.tmps.size=E.C.n/\E.Kp a.defers w s.2 σ
section
variable {E : Env} {ops : Array Oper} {Q : Exit -> Act -> World -> Prop}
theorem put_defers(a:Act)(dst:Option Tmp)(x:Value):(a.put dst x).defers=a.defers:=by cases dst <;> rfl
theorem qxn(a:Act)(dst:Option Tmp)(x:Value):(a.put dst x).tmps.size=a.tmps.size:=by cases dst <;> simp [Act.put]
theorem qDs(a:Act)(d:Tmp)(x:Value)(hd:d<a.tmps.size)(i:Nat):(a.put (some d) x).tmps.getD i undef=bif Nat.beq d i then x else a.tmps.getD i undef:=by
 simp only [Act.put,zP,zk]
 by_cases h:d=i
 ·subst h;simp [hd]
 ·simp [h,show Nat.beq d i=false from zAJ.2 fun e=>h (zB e)]
theorem qzy{w:World}{M:Nat->Prop}{h:List O}{σ:Nat->Loc}{t:Nat->V}{a:Act}{dst:Option Tmp}{n:Nat}(hd:okDst n dst=true)(hn:a.tmps.size=n)
  (hr:∀ i,RV w M h σ (t i) (a.tmps.getD i undef)) {v:V} {x:Value} (hv:RV w M h σ v x) (i:Nat):RV w M h σ (upd dst v t i) ((a.put dst x).tmps.getD i undef):=by
 cases dst with
 | none=>exact hr i
 | some d=>
  rw [qDs a d x (by rw [hn];exact zH hd)]
  simp only [upd]
  cases Nat.beq d i with
  | true=>exact hv
  | false=>exact hr i
theorem At.put{s:S}{a:Act}{w:World}(hat:At E s a w){dst:Option Tmp}(hd:okDst E.C.n dst=true):At E (upd dst .undef s.1,s.2) (a.put dst undef) w:=by
 obtain⟨σ,R,hr,hn,hk⟩:=hat
 exact⟨σ,R,qzy hd hn hr (by simp only [RV]),by rw [qxn,hn],by rw [put_defers];exact hk⟩
theorem At.next{s:S}{a:Act}{w w':World}(hE:E.Ok){σ σ':Nat->Loc}(R:Rep E.w0 E.A E.M0 w s.2 σ)(hr:∀ i,RV w (mutb E.M0 s.2 σ) s.2 σ (s.1 i) (a.tmps.getD i undef))(hn:a.tmps.size=E.C.n)(hk:E.Kp a.defers w s.2 σ)
  {dst:Option Tmp} (hd:okDst E.C.n dst=true) {H:List O} (hx:Next E.w0 E.A E.M0 w s.2 σ w' H σ') {v:V} {x:Value} (hv:RV w' (mutb E.M0 H σ') H σ' v x):At E (upd dst v s.1,H) (a.put dst x) w':=
 ⟨σ',hx.rep,qzy hd hn (fun i=>hx.rv (hr i)) hv,by rw [qxn,hn],by rw [put_defers];exact hE.kp _ _ _ _ _ _ _ R hx.rep (.of_next hx) hk⟩
theorem qAt{a:Act}{d:Nat}{b:Bool}(h:a.tmps.getD d undef=.bool b):a.tmps[d]? = some (.bool b):=by
 rw [zP] at h
 cases hx:a.tmps[d]? with
 | none=>rw [hx] at h;simp [undef] at h
 | some v=>rw [hx] at h;simp at h;rw [h]
theorem qyi(hE:E.Ok){o:Oper}{md:Md}{s s':S}{a:Act}{w:World}(hs:stepA E.C ops.toList (o,md) s=some s')(hat:At E s a w){K:Act->World->Prop}(hK:∀ a w,At E s' a w->K a w) :
  if Region.wanted o (yielded ops a.tmps) then o.wpIn (WF E.r) E.n E.P a w K Q else (∀ f,o.about E.P w a.eval=some f->(WF E.r).fn f)/\K (a.put o.dst undef) w:=by
 obtain⟨hd,v,H,hact,rfl⟩:=qeC hs
 simp only at hd hact hK
 have hat':=hat
 obtain⟨σ,R,hr,hn,hk⟩:=hat'
 have run:evM E.C o.op s.1 s.2 md two=some (v,H)->o.wpIn (WF E.r) E.n E.P a w K Q:=fun he=>by
  obtain⟨v',H',h1,h2⟩:=qAD (r:=E.r) (n:=E.n) hE.types hE.calls hE.glob R hr he
  simp only [two,zD,zN] at h1
  obtain⟨rfl,rfl⟩:=h1
  exact h2 K Q fun x w' ⟨σ',hx,hv⟩=>hK _ _ (At.next hE R hr hn hk hd hx hv)
 unfold actA at hact
 cases hg:o.guard with
 | none=>
  rw [hg] at hact
  simp only [Region.wanted,hg,if_true]
  exact run hact
 | some gw=>
  obtain⟨j,want⟩:=gw
  rw [hg] at hact
  simp only at hact
  cases hj:dstOf ops.toList j with
  | none=>rw [hj] at hact;cases hact
  | some d=>
   rw [hj] at hact
   simp only at hact
   cases ht:s.1 d with
   | bool b=>
    rw [ht] at hact
    simp only at hact
    have hb:=hr d
    rw [ht] at hb
    simp only [RV] at hb
    have hy:yielded ops a.tmps j=some b:=by
     have hj':(ops[j]?).bind (·.dst)=some d:=by
      unfold dstOf at hj
      simp only [zp] at hj
      split at hj
      ·rename_i o' ho';rw [ho'];exact hj
      ·cases hj
     simp only [yielded,hj',Option.bind_some,qAt hb]
    simp only [Region.wanted,hg,hy]
    by_cases hbw:b=want
    ·subst hbw
     simp only [if_true] at hact
     simp only [zAZ,if_true]
     exact run hact
    ·simp only [hbw,if_false,zD,zN] at hact
     obtain⟨rfl,rfl⟩:=hact
     have:(some b==some want)=false:=by simpa using hbw
     simp only [this,zAC,if_false]
     exact⟨fun _ _=>trivial,hK _ _ (hat.put hd)⟩
   | undef=>
    rw [ht] at hact
    simp only [zD,zN] at hact
    obtain⟨rfl,rfl⟩:=hact
    have hb:=hr d
    rw [ht] at hb
    simp only [RV] at hb
    have hj':(ops[j]?).bind (·.dst)=some d:=by
     unfold dstOf at hj
     simp only [zp] at hj
     split at hj
     ·rename_i o' ho';rw [ho'];exact hj
     ·cases hj
    have hy:yielded ops a.tmps j=none:=by
     simp only [yielded,hj',Option.bind_some]
     rw [zP] at hb
     cases hx:a.tmps[d]? with
     | none=>rfl
     | some v=>rw [hx] at hb;simp at hb;subst hb;rfl
    simp only [Region.wanted,hg,hy]
    have:((none:Option Bool)==some want)=false:=rfl
    simp only [this,zAC,if_false]
    exact⟨fun _ _=>trivial,hK _ _ (hat.put hd)⟩
   | _=>rw [ht] at hact;cases hact
def sel(ops:Array Oper)(mds:List Md)(is:List Nat):List (Oper×Md):=is.filterMap fun i=>(zipM ops.toList mds)[i]?
theorem qlg:(r:List Oper)->(mds:List Md)->(i:Nat)->(zipM r mds)[i]?.map (·.1)=r[i]?
 | [],mds,i=>by simp [zipM]
 | o :: r,mds,0=>by simp [zipM]
 | o :: r,mds,i+1=>by simp only [zipM,List.getElem?_cons_succ];exact qlg r mds.tail i
theorem qtM{mds:List Md}{i:Nat}(h:(zipM ops.toList mds)[i]? = none):ops[i]? = none:=by
 have:=qlg ops.toList mds i
 rw [h] at this
 simpa using this.symm
theorem qfT{mds:List Md}{i:Nat}{x:Oper×Md}(h:(zipM ops.toList mds)[i]? = some x):ops[i]? = some x.1:=by
 have:=qlg ops.toList mds i
 rw [h] at this
 simpa using this.symm
theorem qfY{α:Type}(l:List α):(List.range l.length).filterMap (fun i=>l[i]?)=l:=by
 induction l with
 | nil=>rfl
 | cons x l ih=>
  rw [List.length_cons,zBk,zBv]
  simp only [List.getElem?_cons_zero]
  rw [zCD]
  congr 1
theorem qcj:(r:List Oper)->(mds:List Md)->(zipM r mds).length=r.length
 | [],_=>rfl
 | o :: r,mds=>by simp [zipM,qcj r]
theorem qjc(mds:List Md):sel ops mds (List.range ops.size)=zipM ops.toList mds:=by
 have:=qfY (zipM ops.toList mds)
 rw [qcj] at this
 simpa [sel] using this
theorem qlu{mds:List Md}{i:Nat}{is:List Nat}{x:Oper×Md}(h:(zipM ops.toList mds)[i]? = some x):sel ops mds (i :: is)=x :: sel ops mds is:=by
 simp [sel,h]
theorem qhG(hE:E.Ok){i:Nat}{rest:List Nat}{x:Oper×Md}{mds:List Md}(hi:(zipM ops.toList mds)[i]? = some x){s s':S}{a:Act}{w:World}(hs:stepA E.C ops.toList x s=some s')(hat:At E s a w)
  (hK:∀ a w,At E s' a w->wpOpsIn (WF E.r) E.n E.P ops Q rest a w):wpOpsIn (WF E.r) E.n E.P ops Q (i :: rest) a w:=by
 simp only [wpOpsIn,qfT hi]
 exact qyi hE (md:=x.2) hs hat hK
theorem qfV(hE:E.Ok){mds:List Md}:(is:List Nat) -> {s s':S} -> {a:Act} -> {w:World}->runA E.C ops.toList (sel ops mds is) s=some s'->At E s a w->(∀ a w,At E s' a w->Q .normal a w) ->
  wpOpsIn (WF E.r) E.n E.P ops Q is a w
 | [],s,s',a,w,hr,hat,hQ=>by
  simp only [sel,zAv,runA,zD] at hr
  subst hr
  exact hQ a w hat
 | i :: is,s,s',a,w,hr,hat,hQ=>by
  cases hi:(zipM ops.toList mds)[i]? with
  | none=>
   simp only [sel,zBv,hi] at hr
   simp only [wpOpsIn,qtM hi]
   exact qfV hE is hr hat hQ
  | some x=>
   rw [qlu hi] at hr
   obtain⟨s1,h1,h2⟩:=zR.1 hr
   exact qhG hE hi h1 hat fun a w h=>qfV hE is h2 h hQ
def qeu(o:Oper)(e:Edge):Prop:=e∈o.after/\Region.binds .any e=true
structure Spec (all:List Oper) (its:List (Oper×Md)) (m:Nat->Nat):Prop where
 lt:∀ i x,its[i]? = some x->∀ e,qeu x.1 e->e.on<i
 mask:∀ i x,its[i]? = some x->∀ q,(m i).testBit q=true->∃ e,qeu x.1 e/\(q=e.on\/(m e.on).testBit q=true)
 pair:∀ i x,its[i]? = some x->∀ p y,p<i->its[p]? = some y->(m i).testBit p=true\/qrm all y.1 y.2 x.1 x.2=true
theorem qxw(masks:List Nat)(q:Nat):(es:List Edge)->(s:Nat)->(es.foldl (fun s e=>bif Region.binds .any e then s ||| 2 ^ e.on ||| masks.getD e.on 0 else s) s).testBit q=true ->
  s.testBit q=true\/∃ e∈es,Region.binds .any e=true/\(q=e.on\/(masks.getD e.on 0).testBit q=true)
 | [],s,h=>.inl h
 | e :: es,s,h=>by
  rw [List.foldl_cons] at h
  rcases qxw masks q es _ h with h | ⟨e',h1,h2⟩
  ·cases hb:Region.binds .any e with
   | false=>rw [hb] at h;exact .inl h
   | true=>
    rw [hb] at h
    simp only [cond_true,Nat.testBit_or,zx,zBt,zQ] at h
    rcases h with (h | h) | h
    ·exact .inl h
    ·exact .inr ⟨e,by simp,hb,.inl h.symm⟩
    ·exact .inr ⟨e,by simp,hb,.inr h⟩
  ·exact .inr ⟨e',by simp [h1],h2⟩
theorem qrC{masks:List Nat}{o:Oper}{q:Nat}(h:(needs masks o).testBit q=true):∃ e,qeu o e/\(q=e.on\/(masks.getD e.on 0).testBit q=true):=by
 rcases qxw masks q o.after.toList 0 h with h | ⟨e,h1,h2,h3⟩
 ·simp at h
 ·exact⟨e,⟨by simpa using h1,h2⟩,h3⟩
theorem qjF{all:List Oper}:(r:List Oper)->(mds:List Md)->(masks:List Nat)->(bef:List (Oper×Md))->masks.length=bef.length->qto all r mds bef.length masks bef=true ->
  Spec all bef (fun i=>masks.getD i 0)->∃ m,Spec all (bef++zipM r mds) m
 | [],mds,masks,bef,hl,_,hs=>⟨_,by simpa [zipM] using hs⟩
 | o :: r,mds,masks,bef,hl,hd,hs=>by
  simp only [qto,zA] at hd
  obtain⟨h1,h2,h3⟩:=hd
  have hlt:∀ e,qeu o e->e.on<bef.length:=fun e ⟨he,hb⟩=>by
   have:=zm.1 h1 e (by simpa using he)
   rw [hb] at this
   simp only [Bool.not_true,Bool.false_or] at this
   exact zH this
  have hget:∀ i x,(bef ++ [(o,mds.headD .full)])[i]? = some x->(bef[i]? = some x/\i<bef.length)\/(i=bef.length/\x=(o,mds.headD .full)):=fun i x hx=>by
   rcases zAO i bef.length with h | h
   ·rw [zl h] at hx;exact .inl ⟨hx,h⟩
   ·rw [zu h] at hx
    have:i - bef.length=0:=by
     rcases zBI (i - bef.length) with h | h
     ·exact h
     ·rw [zX (by simp;omega)] at hx;cases hx
    rw [this] at hx
    simp only [List.getElem?_cons_zero,zD] at hx
    exact .inr ⟨by omega,hx.symm⟩
  have hm:∀ i,i<bef.length->(masks ++ [needs masks o]).getD i 0=masks.getD i 0:=fun i hi=>by
   simp [List.getD,zl (hl▸hi:i<masks.length)]
  have hm':(masks ++ [needs masks o]).getD bef.length 0=needs masks o:=by simp [List.getD,<- hl]
  have:=qjF r mds.tail (masks ++ [needs masks o]) (bef ++ [(o,mds.headD .full)]) (by simp [hl]) (by simpa using h3) ⟨?_,?_,?_⟩
  ·simpa [zipM] using this
  ·intro i x hx e he
   rcases hget i x hx with⟨hx,_⟩ | ⟨rfl,rfl⟩
   ·exact hs.lt i x hx e he
   ·exact hlt e he
  ·intro i x hx q hq
   rcases hget i x hx with⟨hx,hi⟩ | ⟨rfl,rfl⟩
   ·rw [hm i hi] at hq
    obtain⟨e,he,hq⟩:=hs.mask i x hx q hq
    have:=hs.lt i x hx e he
    exact⟨e,he,by rw [hm _ (by omega)];exact hq⟩
   ·rw [hm'] at hq
    obtain⟨e,he,hq⟩:=qrC hq
    exact⟨e,he,by rw [hm _ (hlt e he)];exact hq⟩
  ·intro i x hx p y hp hy
   rcases hget i x hx with⟨hx,hi⟩ | ⟨rfl,rfl⟩
   ·rw [hm i hi]
    rcases hget p y hy with⟨hy,_⟩ | ⟨rfl,_⟩
    ·exact hs.pair i x hx p y hp hy
    ·omega
   ·rw [hm']
    rcases hget p y hy with⟨hy,_⟩ | ⟨rfl,_⟩
    ·have:=zm.1 h2 (y,p) (zCO.2 (by simpa using hy))
     simpa using this
    ·omega
def Shut(ops:Array Oper)(listed:Array Bool):Prop:=∀ i o,ops[i]? = some o->listed.getD i true=true->∀ e,qeu o e->listed.getD e.on false=true
theorem qkU{mds:List Md}{m:Nat->Nat}(hS:Spec ops.toList (zipM ops.toList mds) m){listed:Array Bool}(hl:listed.size=ops.size)(hc:Shut ops listed) :
  (i:Nat)->(x:Oper×Md)->(zipM ops.toList mds)[i]? = some x->(∀ e,qeu x.1 e->listed.getD e.on false=true)->∀ q,(m i).testBit q=true->listed.getD q false=true
 | i,x,hx,he,q,hq=>by
  obtain⟨e,hb,hq⟩:=hS.mask i x hx q hq
  have hlt:=hS.lt i x hx e hb
  have hle:=he e hb
  rcases hq with rfl | hq
  ·exact hle
  ·have hsz:e.on<ops.size:=by
    rw [<- hl]
    rw [zP] at hle
    cases h:listed[e.on]? with
    | none=>rw [h] at hle;simp at hle
    | some b=>exact (zI.1 h).1
   have hy:∃ y,(zipM ops.toList mds)[e.on]? = some y:=⟨(zipM ops.toList mds)[e.on]'(by rw [qcj];simpa using hsz),by simp⟩
   obtain⟨y,hy⟩:=hy
   exact qkU hS hl hc e.on y hy (fun e' he'=>hc e.on y.1 (qfT hy) (by
    rw [zP] at hle ⊢
    cases h:listed[e.on]? with
    | none=>rfl
    | some b=>rw [h] at hle;simpa using hle) e' he') q hq
termination_by i=>i
def left(ops:Array Oper)(listed:Array Bool):List Nat:=(List.range ops.size).filter fun i=>!listed.getD i true
theorem qiw(listed:Array Bool):(left ops listed).Pairwise (· < ·):=List.pairwise_lt_range.filter _
theorem qsU{listed:Array Bool}{i:Nat}(hl:listed.size=ops.size)(hi:i<ops.size):left ops (listed.setIfInBounds i true)=(left ops listed).filter (fun j=>j != i):=by
 unfold left
 rw [zCC]
 apply List.filter_congr
 intro j hj
 simp only [zP,zk]
 by_cases h:i=j
 ·subst h;simp [hl,hi]
 ·have h':(j != i)=true:=by simpa using fun e=>h e.symm
  simp [h,h']
theorem qnz{l:List Nat}(hp:l.Pairwise (· < ·)){i:Nat}(hi:i∈l):∃ pre post,l=pre++i :: post/\(∀ p∈pre,p<i)/\l.filter (fun j=>j != i)=pre++post:=by
 obtain⟨pre,post,rfl⟩:=List.append_of_mem hi
 rw [zBo] at hp
 obtain⟨_,h2,h3⟩:=hp
 rw [zAA] at h2
 have hpre:∀ p∈pre,p<i:=fun p h=>h3 p h i (by simp)
 refine⟨pre,post,rfl,hpre,?_⟩
 rw [zAL,zAa]
 have e1:pre.filter (fun j=>j != i)=pre:=zAX.2 fun p h=>by have:=hpre p h;simp;omega
 have e2:post.filter (fun j=>j != i)=post:=zAX.2 fun p h=>by have:=h2.1 p h;simp;omega
 simp [e1,e2]
theorem qqw(hE:E.Ok){mds:List Md}{m:Nat->Nat}(hS:Spec ops.toList (zipM ops.toList mds) m){s':S}(hQ:∀ a w,At E s' a w->Q .normal a w):(fuel:Nat)->(k:Nat)->(listed:Array Bool) -> {s:S} -> {a:Act} -> {w:World} ->
  listed.size=ops.size->(left ops listed).length<=fuel->Shut ops listed->runA E.C ops.toList (sel ops mds (left ops listed)) s=some s'->At E s a w ->
  wpOpsIn (WF E.r) E.n E.P ops Q (Region.linearise.go .any ops fuel k listed []) a w
 | 0,k,listed,s,a,w,hl,hf,hc,hr,hat=>by
  have:left ops listed = []:=zBL.1 (by omega)
  rw [this] at hr
  simp only [sel,zAv,runA,zD] at hr
  subst hr
  simpa [Region.linearise.go,wpOpsIn] using hQ a w hat
 | fuel+1,k,listed,s,a,w,hl,hf,hc,hr,hat=>by
  simp only [Region.linearise.go]
  change wpOpsIn (WF E.r) E.n E.P ops Q (match (Region.ready .any ops listed)[k % (Region.ready .any ops listed).length]? with
   | some i=>Region.linearise.go .any ops fuel (k / (Region.ready .any ops listed).length) (listed.setIfInBounds i true) [i]
   | none=>[].reverse) a w
  cases hi:(Region.ready .any ops listed)[k % (Region.ready .any ops listed).length]? with
  | none=>
   have hnil:Region.ready .any ops listed = []:=by
    cases hr:Region.ready .any ops listed with
    | nil=>rfl
    | cons x xs=>
     rw [hr] at hi
     have hlt:k % (x :: xs).length<(x :: xs).length:=zCX _ (by simp)
     simp at hi
     simp at hlt
     omega
   have hleft:left ops listed = []:=by
    cases hL:left ops listed with
    | nil=>rfl
    | cons i rest=>
     exfalso
     have hi:i∈left ops listed:=by rw [hL];simp
     simp only [left,zc,zg] at hi
     have:i∈Region.ready .any ops listed:=by
      simp only [Region.ready,zc,zg]
      refine⟨hi.1,?_⟩
      rw [zA]
      refine⟨hi.2,?_⟩
      simp only [hi.1,zd,Option.map_some,zBQ]
      rw [zBW]
      intro e he
      cases hb:Region.binds .any e with
      | false=>rfl
      | true=>
       simp only [Bool.not_true,Bool.false_or]
       obtain⟨x,hx⟩:∃ x,(zipM ops.toList mds)[i]? = some x:=⟨(zipM ops.toList mds)[i]'(by rw [qcj];simpa using hi.1),by simp⟩
       have hxo:=qfT hx
       rw [zd hi.1,zD] at hxo
       have hlt:=hS.lt i x hx e ⟨hxo▸he,hb⟩
       cases hq:listed.getD e.on true with
       | true=>
        have hsz:e.on<listed.size:=by omega
        rw [zP,zd hsz] at hq ⊢
        simpa using hq
       | false=>
        have hmem:e.on∈left ops listed:=by
         simp only [left,zc,zg,hq]
         exact⟨by omega,rfl⟩
        have hsort:=qiw (ops:=ops) listed
        rw [hL] at hmem hsort
        rw [zAA] at hsort
        rcases zi.1 hmem with h | h
        ·omega
        ·have:=hsort.1 _ h;omega
     rw [hnil] at this
     cases this
   rw [hleft] at hr
   simp only [sel,zAv,runA,zD] at hr
   subst hr
   simpa [wpOpsIn] using hQ a w hat
  | some i=>
   simp only []
   rw [linearise_go_acc,List.reverse_singleton,List.singleton_append]
   have hrd:i∈Region.ready .any ops listed:=zh hi
   simp only [Region.ready,zc,zg,zA] at hrd
   obtain⟨hlt,hun,haf⟩:=hrd
   obtain⟨x,hx⟩:∃ x,(zipM ops.toList mds)[i]? = some x:=⟨(zipM ops.toList mds)[i]'(by rw [qcj];simpa using hlt),by simp⟩
   have hxo:=qfT hx
   rw [hxo] at haf
   simp only [Option.map_some,zBQ] at haf
   rw [zBW] at haf
   have hedge:∀ e,qeu x.1 e->listed.getD e.on false=true:=fun e ⟨he,hb⟩=>by
    have:=haf e he
    rw [hb] at this
    simpa using this
   have hmem:i∈left ops listed:=by simp only [left,zc,zg];exact⟨hlt,hun⟩
   obtain⟨pre,post,hL,hpre,hrest⟩:=qnz (qiw (ops:=ops) listed) hmem
   have hset:=qsU (ops:=ops) hl hlt
   rw [hrest] at hset
   rw [hL] at hr
   have hsel:sel ops mds (pre++i :: post)=sel ops mds pre++x :: sel ops mds post:=by
    simp [sel,zAf,hx]
   rw [hsel] at hr
   obtain⟨s1,h1,h2⟩:=qiB (sel ops mds pre) (x:=x) (fun p hp=>by
    obtain⟨j,hj,hpj⟩:=zBV.1 hp
    rcases hS.pair i x hx j p (hpre j hj) hpj with hb | hb
    ·exfalso
     have:=qkU hS hl hc i x hx hedge j hb
     have hjl:j∈left ops listed:=by rw [hL];simp [hj]
     simp only [left,zc,zg] at hjl
     have hsz:j<listed.size:=by omega
     rw [zP,zd hsz] at this hjl
     simp at this hjl
     rw [this] at hjl;simp at hjl
    ·exact hb) hr
   refine qhG hE hx h1 hat fun a w hat=>qqw hE hS hQ fuel _ _ (by simp [hl]) ?_ ?_ ?_ hat
   ·have:=congrArg List.length hset
    have h3:=congrArg List.length hL
    simp at this h3
    omega
   ·intro j o hj hlj e he
    have hmono:∀ q,listed.getD q false=true->(listed.setIfInBounds i true).getD q false=true:=fun q hq=>by
     simp only [zP,zk] at hq ⊢
     split
     ·split <;> simp_all
     ·exact hq
    by_cases hji:i=j
    ·subst hji
     rw [hxo,zD] at hj
     subst hj
     exact hmono _ (hedge e he)
    ·refine hmono _ (hc j o hj ?_ e he)
     simp only [zP,zk,hji,if_false] at hlj ⊢
     exact hlj
   ·rw [hset]
    simpa [sel,zAf] using h2
theorem qBS(hE:E.Ok){o:Oper}{s:S}{a:Act}{w:World}{p:XPkg}{u:Unit}(hq:panQ E.C s.1 s.2 o.op=some p)(hp:p.r=some (.inr u))(hat:At E s a w){next:Act->World->Prop}{tp:Nat->V}(htp:∀ i,tp i=.bad\/tp i=s.1 i)
  (hQ:∀ w',At E (tp,p.h) a w'->Q (.panic [{ v:=panV p.ty,recovered:=false }]) a w'):o.wpIn (WF E.r) E.n E.P a w next Q:=by
 unfold panQ at hq
 split at hq
 case h_2=>cases hq
 rename_i c ho
 split at hq
 case h_2=>cases hq
 rename_i f hcf
 split at hq
 case h_2=>cases hq
 rename_i g caps hev
 obtain⟨σ,R,hr,hn,hk⟩:=hat
 have hv:=qj hr f
 rw [hev] at hv
 simp only [RV] at hv
 obtain⟨vs,hv,hcaps⟩:=hv
 obtain⟨fn,code,h1,h2,h3⟩:=hE.xs.fn _ _ _ _ hq
 have hargs:=qxa g (xs:=c.args.map a.eval) (by rw [zCN];exact qgv hr c.args.toList) hcaps
 have hcall:=hE.xs.x _ _ _ _ _ hq hp E.w0 E.A E.M0 w σ hE.glob R _ hargs
 rw [Array.toArray_toList] at hcall
 refine⟨fun _ _=>trivial,?_⟩
 rw [Oper.semAt_eq _ _ _ (by intro c' hc';rw [ho] at hc';cases hc')]
 have hrun:(execOp a.eval o).run E.P w=.ok (.enter (tgtF g) (fstF g vs++c.args.map a.eval++capF g vs)) w:=by
  simp only [execOp,ho,resolve,hcf,hv,cloV,Deferred.ofValue,Sem.run_bind,Sem.run_pure,Result.andThen_ok,invoke,callFunc,run_program,h1,h2,h3]
  simp
 rw [hrun]
 refine⟨fun hh=>by simp [WF,Fence.wide] at hh,qnk (hcall.mono ?_)⟩
 rintro e w' ⟨rfl,σ',hx⟩
 refine hQ w' ⟨σ',hx.rep,fun i=>?_,hn,hE.kp _ _ _ _ _ _ _ R hx.rep (.of_next hx) hk⟩
 rcases htp i with h | h
 ·simp only [h,RV]
 ·simp only [h];exact RV.keeps hx.keeps hx.step (hr i)
theorem qtO(hE:E.Ok){i:Nat}{rest:List Nat}{o:Oper}(hi:ops[i]? = some o)(hg:o.guard=none){s:S}{a:Act}{w:World}{p:XPkg}{u:Unit}(hq:panQ E.C s.1 s.2 o.op=some p)(hp:p.r=some (.inr u))(hat:At E s a w){tp:Nat->V}(htp:∀ i,tp i=.bad\/tp i=s.1 i)
  (hQ:∀ a w',At E (tp,p.h) a w'->Q (.panic [{ v:=panV p.ty,recovered:=false }]) a w'):wpOpsIn (WF E.r) E.n E.P ops Q (i :: rest) a w:=by
 simp only [wpOpsIn,hi,Region.wanted,hg,if_true]
 exact qBS hE hq hp hat htp (hQ a)
theorem qst(hE:E.Ok){mds:List Md}{rest:List Nat}:(is:List Nat) -> {s s':S} -> {a:Act} -> {w:World}->runA E.C ops.toList (sel ops mds is) s=some s'->At E s a w->(∀ a w,At E s' a w->wpOpsIn (WF E.r) E.n E.P ops Q rest a w) ->
  wpOpsIn (WF E.r) E.n E.P ops Q (is++rest) a w
 | [],s,s',a,w,hr,hat,hQ=>by
  simp only [sel,zAv,runA,zD] at hr
  subst hr
  exact hQ a w hat
 | i :: is,s,s',a,w,hr,hat,hQ=>by
  cases hi:(zipM ops.toList mds)[i]? with
  | none=>
   simp only [sel,zBv,hi] at hr
   simp only [List.cons_append,wpOpsIn,qtM hi]
   exact qst hE is hr hat hQ
  | some x=>
   rw [qlu hi] at hr
   obtain⟨s1,h1,h2⟩:=zR.1 hr
   exact qhG hE hi h1 hat fun a w h=>qst hE is h2 h hQ
theorem qpj{ρ:Type}{C:Ctx}{all:List Oper}{mds:List Md}{t:Slots}{h:List O}{K:TypeId->List O->Option ρ}{k:Option ρ}{res:ρ}:(is:List Nat)->panR C all mds t h K k is=some res ->
  k=some res\/∃ i o t1 h1 p u,i∈is/\all[i]? = some o/\o.guard=none/\runA C all (zipM (all.take i) mds) (look t,h)=some (look t1,h1)/\panQ C (look t1) h1 o.op=some p/\p.r=some (.inr u)/\K p.ty p.h=some res
 | [],hk=>.inl hk
 | i :: is,hk=>by
  simp only [panR] at hk
  split at hk
  ·cases hk
  rename_i o ho
  split at hk
  ·cases hk
  rename_i hg
  obtain⟨t1,h1,hr,hk⟩:=qeV _ _ _ _ _ hk
  split at hk
  ·cases hk
  rename_i p hp
  obtain⟨y,hy,hk⟩:=zR.1 hk
  cases y with
  | inl y=>
   simp only [caseD] at hk
   rcases qpj is hk with hk | ⟨i',o',t1',h1',p',u',m1,m2⟩
   ·exact .inl hk
   ·exact .inr ⟨i',o',t1',h1',p',u',zb _ m1,m2⟩
  | inr u=>exact .inr ⟨i,o,t1,h1,p,u,zAH,ho,hg,hr,hp,hy,hk⟩
theorem qlf:(r:List Oper)->(mds:List Md)->(i:Nat)->zipM (r.take i) mds=(zipM r mds).take i
 | [],mds,i=>by simp [zipM]
 | o :: r,mds,0=>by simp [zipM]
 | o :: r,mds,i+1=>by simp [zipM,qlf r mds.tail i]
theorem qjQ{α:Type}(l:List α):(i:Nat)->(List.range i).filterMap (fun j=>l[j]?)=l.take i
 | 0=>rfl
 | i+1=>by
  rw [zCR,zAf,qjQ l i,List.take_add_one]
  congr 1
theorem qvN{C:Ctx}{all:List Oper}{tp:Nat->V}{x:Oper×Md}(hx:∀ d,x.1.dst=some d->tp d=.bad){s s':S}(h:stepA C all x s=some s')(hs:∀ i,tp i=.bad\/tp i=s.1 i):∀ i,tp i=.bad\/tp i=s'.1 i:=by
 obtain⟨-,v,H,-,rfl⟩:=qeC h
 intro i
 cases hd:x.1.dst with
 | none=>exact hs i
 | some d=>
  simp only [upd]
  cases hb:Nat.beq d i with
  | true=>
   obtain rfl:=zB hb
   exact .inl (hx d hd)
  | false=>exact hs i
theorem qzg{C:Ctx}{all:List Oper}{tp:Nat->V}:(l:List (Oper×Md))->(∀ x∈l,∀ d,x.1.dst=some d->tp d=.bad) -> {s s':S}->runA C all l s=some s'->(∀ i,tp i=.bad\/tp i=s.1 i)->∀ i,tp i=.bad\/tp i=s'.1 i
 | [],_,s,s',h,hs=>by
  simp only [runA,zD] at h
  subst h;exact hs
 | x :: l,hx,s,s',h,hs=>by
  obtain⟨s1,h1,h2⟩:=zR.1 h
  exact qzg l (fun y hy=>hx y (zb _ hy)) h2 (qvN (hx x zAH) h1 hs)
theorem qne(all:List Oper):(t:Slots)->(i:Nat)->look (dropT all t) i=bif memN (all.filterMap (·.dst)) i then .bad else look t i
 | [],i=>by cases h:memN (all.filterMap (·.dst)) i <;> simp [dropT,look]
 | p :: t,i=>by
  have ih:=qne all t i
  unfold dropT at ih ⊢
  rw [zAa]
  cases hp:memN (all.filterMap (·.dst)) p.1 with
  | true=>
   simp only [Bool.not_true,zAC,if_false,ih,look]
   cases hb:Nat.beq p.1 i with
   | true=>
    obtain rfl:=zB hb
    rw [hp];rfl
   | false=>rfl
  | false=>
   simp only [Bool.not_false,if_true,look,ih]
   cases hb:Nat.beq p.1 i with
   | true=>
    obtain rfl:=zB hb
    rw [hp];rfl
   | false=>rfl
theorem qqh(all:List Oper)(t:Slots)(i:Nat):look (dropT all t) i=.bad\/look (dropT all t) i=look t i:=by
 rw [qne]
 cases memN (all.filterMap (·.dst)) i
 ·exact .inr rfl
 ·exact .inl rfl
theorem qqi{all:List Oper}(t:Slots){o:Oper}(ho:o∈all){d:Nat}(hd:o.dst=some d):look (dropT all t) d=.bad:=by
 rw [qne,qgV.2 (zBV.2 ⟨o,ho,hd⟩)];rfl
theorem qoC{all:List Oper}{mds:List Md}{x:Oper×Md}(hx:x∈zipM all mds):x.1∈all:=by
 obtain⟨i,hi⟩:=List.mem_iff_getElem?.1 hx
 have:=qlg all mds i
 rw [hi] at this
 exact zh this.symm
theorem qDu(hE:E.Ok){mds:List Md}{i:Nat}{o:Oper}(ho:ops.toList[i]? = some o)(hg:o.guard=none){s s':S}(hr:runA E.C ops.toList (zipM (ops.toList.take i) mds) s=some s'){p:XPkg}{u:Unit}(hq:panQ E.C s'.1 s'.2 o.op=some p)(hp:p.r=some (.inr u))
  {a:Act} {w:World} (hat:At E s a w) {tp:Nat->V} (htd:∀ o∈ops.toList,∀ d,o.dst=some d->tp d=.bad) (htp:∀ i,tp i=.bad\/tp i=s.1 i) (hQ:∀ a w',At E (tp,p.h) a w'->Q (.panic [{ v:=panV p.ty,recovered:=false }]) a w'):wpOpsIn (WF E.r) E.n E.P ops Q (List.range ops.size) a w:=by
 have hi:i<ops.size:=by
  have:=(zS.1 ho).1
  simpa using this
 have e:List.range ops.size=List.range i++i :: (List.range ops.size).drop (i+1):=by
  have h1:=(zAe i (List.range ops.size)).symm
  rw [List.take_range,zBH (by omega),zBB (by simpa using hi),zCB] at h1
  exact h1
 rw [e]
 refine qst hE (mds:=mds) (List.range i) ?_ hat fun a w h=>qtO hE (by simpa using ho) hg hq hp h (qzg _ (fun x hx d hd=>htd _ (zAU (qoC hx)) d hd) hr htp) hQ
 unfold sel
 rw [qjQ,<- qlf]
 exact hr
theorem qDh(hE:E.Ok){o:Oper}(ho:ops.toList.getLast? = some o)(hg:o.guard=none){x:Operand}(hx:o.op=.panic x){ty:TypeId}{s s':S}(hr:runA E.C ops.toList (zipM (ops.toList.take (ops.toList.length - 1)) []) s=some s')(hv:ev s'.1 x=.ifc ty (.agg []))
  {a:Act} {w:World} (hat:At E s a w) {tp:Nat->V} (htd:∀ o∈ops.toList,∀ d,o.dst=some d->tp d=.bad) (htp:∀ i,tp i=.bad\/tp i=s.1 i) (hQ:∀ a w',At E (tp,s'.2) a w'->Q (.panic [{ v:=panV ty,recovered:=false }]) a w'):wpOpsIn (WF E.r) E.n E.P ops Q (List.range ops.size) a w:=by
 have hne:0<ops.size:=by
  rcases zBI ops.size with h | h
  ·rw [List.getLast?_eq_none_iff.2 (by simpa using h)] at ho;cases ho
  ·exact h
 have hi:ops[ops.size - 1]? = some o:=by
  rw [List.getLast?_eq_getElem?] at ho
  simpa using ho
 have e:List.range ops.size=List.range (ops.size - 1)++(ops.size - 1) :: []:=by
  rw [<- zCR]
  congr 1
  omega
 rw [e]
 refine qst hE (mds:=[]) (s':=s') (List.range (ops.size - 1)) ?_ hat fun a w h=>?_
 ·unfold sel
  rw [qjQ,<- qlf]
  simpa using hr
 ·simp only [wpOpsIn,hi,Region.wanted,hg,if_true]
  obtain⟨σ,R,h1,h2,h3⟩:=h
  have hb:=qj h1 x
  rw [hv] at hb
  simp only [RV] at hb
  obtain⟨z,hz,cs,rfl,-,hcs⟩:=hb
  simp only [RVs] at hcs
  have hcs:cs = #[]:=by apply Array.ext';simpa using hcs
  subst hcs
  refine⟨fun _ _=>trivial,?_⟩
  rw [Oper.semAt_eq _ _ _ (by intro c' hc';rw [hx] at hc';cases hc')]
  have hrun:(execOp a.eval o).run E.P w=.halt (.panic (panV ty)) w:=by
   simp only [execOp,hx,hz,Sem.run_bind]
   rfl
  rw [hrun]
  refine hQ a w ⟨σ,R,fun i=>?_,h2,h3⟩
  rcases qzg _ (fun x hx d hd=>htd _ (zAU (qoC hx)) d hd) hr htp i with h | h
  ·simp only [h,RV]
  ·simp only [h];exact h1 i
structure PSpec (n:Nat) (is:List Nat) (its:List (Oper×Md)) (m:Nat->Nat):Prop where
 lt:∀ i x,its[i]? = some x->∀ e,qeu x.1 e->e.on<i
 mask:∀ i x,its[i]? = some x->∀ q,(m i).testBit q=true->∃ e,qeu x.1 e/\(q=e.on\/(m e.on).testBit q=true)
 pair:∀ i x,its[i]? = some x->∀ p y,p<i->its[p]? = some y->(m i).testBit p=true\/qpk n is p y.1 y.2 i x.1 x.2=true
theorem qpl{n:Nat}{is:List Nat}:(r:List Oper)->(mds:List Md)->(masks:List Nat)->(bef:List (Oper×Md))->masks.length=bef.length->qxr n is r mds bef.length masks bef=true ->
  PSpec n is bef (fun i=>masks.getD i 0)->∃ m,PSpec n is (bef++zipM r mds) m
 | [],mds,masks,bef,hl,_,hs=>⟨_,by simpa [zipM] using hs⟩
 | o :: r,mds,masks,bef,hl,hd,hs=>by
  simp only [qxr,zA] at hd
  obtain⟨h1,h2,h3⟩:=hd
  have hlt:∀ e,qeu o e->e.on<bef.length:=fun e ⟨he,hb⟩=>by
   have:=zm.1 h1 e (by simpa using he)
   rw [hb] at this
   simp only [Bool.not_true,Bool.false_or] at this
   exact zH this
  have hget:∀ i x,(bef ++ [(o,mds.headD .full)])[i]? = some x->(bef[i]? = some x/\i<bef.length)\/(i=bef.length/\x=(o,mds.headD .full)):=fun i x hx=>by
   rcases zAO i bef.length with h | h
   ·rw [zl h] at hx;exact .inl ⟨hx,h⟩
   ·rw [zu h] at hx
    have:i - bef.length=0:=by
     rcases zBI (i - bef.length) with h | h
     ·exact h
     ·rw [zX (by simp;omega)] at hx;cases hx
    rw [this] at hx
    simp only [List.getElem?_cons_zero,zD] at hx
    exact .inr ⟨by omega,hx.symm⟩
  have hm:∀ i,i<bef.length->(masks ++ [needs masks o]).getD i 0=masks.getD i 0:=fun i hi=>by
   simp [List.getD,zl (hl▸hi:i<masks.length)]
  have hm':(masks ++ [needs masks o]).getD bef.length 0=needs masks o:=by simp [List.getD,<- hl]
  have:=qpl r mds.tail (masks ++ [needs masks o]) (bef ++ [(o,mds.headD .full)]) (by simp [hl]) (by simpa using h3) ⟨?_,?_,?_⟩
  ·simpa [zipM] using this
  ·intro i x hx e he
   rcases hget i x hx with⟨hx,_⟩ | ⟨rfl,rfl⟩
   ·exact hs.lt i x hx e he
   ·exact hlt e he
  ·intro i x hx q hq
   rcases hget i x hx with⟨hx,hi⟩ | ⟨rfl,rfl⟩
   ·rw [hm i hi] at hq
    obtain⟨e,he,hq⟩:=hs.mask i x hx q hq
    have:=hs.lt i x hx e he
    exact⟨e,he,by rw [hm _ (by omega)];exact hq⟩
   ·rw [hm'] at hq
    obtain⟨e,he,hq⟩:=qrC hq
    exact⟨e,he,by rw [hm _ (hlt e he)];exact hq⟩
  ·intro i x hx p y hp hy
   rcases hget i x hx with⟨hx,hi⟩ | ⟨rfl,rfl⟩
   ·rw [hm i hi]
    rcases hget p y hy with⟨hy,_⟩ | ⟨rfl,_⟩
    ·exact hs.pair i x hx p y hp hy
    ·omega
   ·rw [hm']
    rcases hget p y hy with⟨hy,_⟩ | ⟨rfl,_⟩
    ·have:=zm.1 h2 (y,p) (zCO.2 (by simpa using hy))
     simpa using this
    ·omega
theorem qnJ{its:List (Oper×Md)}{mds:List Md}(hits:its=zipM ops.toList mds){m:Nat->Nat}(h1:∀ i x,its[i]? = some x->∀ e,qeu x.1 e->e.on<i)
  (h2:∀ i x,its[i]? = some x->∀ q,(m i).testBit q=true->∃ e,qeu x.1 e/\(q=e.on\/(m e.on).testBit q=true)) {listed:Array Bool} (hl:listed.size=ops.size) (hc:Shut ops listed) :
  (i:Nat)->(x:Oper×Md)->its[i]? = some x->(∀ e,qeu x.1 e->listed.getD e.on false=true)->∀ q,(m i).testBit q=true->listed.getD q false=true
 | i,x,hx,he,q,hq=>by
  obtain⟨e,hb,hq⟩:=h2 i x hx q hq
  have hlt:=h1 i x hx e hb
  have hle:=he e hb
  rcases hq with rfl | hq
  ·exact hle
  ·have hsz:e.on<ops.size:=by
    rw [<- hl]
    rw [zP] at hle
    cases h:listed[e.on]? with
    | none=>rw [h] at hle;simp at hle
    | some b=>exact (zI.1 h).1
   have hy:∃ y,its[e.on]? = some y:=by subst hits;exact⟨(zipM ops.toList mds)[e.on]'(by rw [qcj];simpa using hsz),by simp⟩
   obtain⟨y,hy⟩:=hy
   exact qnJ hits h1 h2 hl hc e.on y hy (fun e' he'=>hc e.on y.1 (qfT (hits▸hy)) (by
    rw [zP] at hle ⊢
    cases h:listed[e.on]? with
    | none=>rfl
    | some b=>rw [h] at hle;simpa using hle) e' he') q hq
termination_by i=>i
theorem qwU{listed:Array Bool}(hl:listed.size=ops.size){j:Nat}(hj:j∈left ops listed):listed.getD j false≠true:=fun this=>by
 simp only [left,zc,zg] at hj
 have hsz:j<listed.size:=by omega
 rw [zP,zd hsz] at this hj
 simp at this hj
 rw [this] at hj;simp at hj
theorem qut{C:Ctx}{t t':Nat->V}{h:List O}{o:Op}(hs:Same t t' o):panQ C t h o=panQ C t' h o:=by
 unfold panQ
 split
 ·rename_i c
  have hx:∀ x∈c.operands,ev t x=ev t' x:=fun x hx=>hs.ev (o:=.call c) hx
  split
  ·rename_i f hf
   have e1:ev t f=ev t' f:=hx f (by simp [Call.operands,hf])
   have hargs:∀ x∈c.args,ev t x=ev t' x:=fun x hm=>hx x (by simp [Call.operands,hm])
   have e2:=qhQ (t:=t) (t':=t') (xs:=c.args.toList) (fun x hm=>hargs x (by simpa using hm))
   rw [e1,e2]
  ·rfl
 ·rfl
theorem qwT{t:Nat->V}{dst:Option Tmp}{v:V}{o:Op}(h:(match dst with | some d=>!memN (qrz o) d | none=>true)=true):Same (upd dst v t) t o:=by
 intro i hi
 cases dst with
 | none=>rfl
 | some d=>
  simp only [upd]
  simp only [zT] at h
  have hne:Nat.beq d i=false:=zAJ.2 fun e=>by
   obtain rfl:=zB e
   rw [qgV.2 hi] at h;cases h
  rw [hne];rfl
theorem qDk{C:Ctx}{all:List Oper}{x:Oper×Md}(hm:isRd x.2=true){s s':S}(h:stepA C all x s=some s'):s'.2=s.2/\∃ v,s'.1=upd x.1.dst v s.1:=by
 obtain⟨-,v,H,h1,rfl⟩:=qeC h
 refine⟨?_,v,rfl⟩
 have key:evM C x.1.op s.1 s.2 x.2 two=some (v,H)->H=s.2:=fun h=>by
  unfold evM at h
  cases hx:x.2 with
  | pure=>rw [hx] at h;simp only at h;rw [qdx] at h;obtain⟨y,-,h⟩:=zR.1 h;simp only [two,zD,zN] at h;exact h.2.symm
  | rd ids=>rw [hx] at h;simp only at h;rw [qdx] at h;obtain⟨y,-,h⟩:=zR.1 h;simp only [two,zD,zN] at h;exact h.2.symm
  | _=>rw [hx] at hm;cases hm
 unfold actA at h1
 split at h1
 ·exact key h1
 ·split at h1
  ·cases h1
  ·split at h1
   ·split at h1
    ·exact key h1
    ·simp only [zD,zN] at h1;exact h1.2.symm
   ·simp only [zD,zN] at h1;exact h1.2.symm
   ·cases h1
theorem qus{C:Ctx}{all:List Oper}{o:Op}{p:XPkg}:(l:List (Oper×Md))->(∀ y∈l,isRd y.2=true/\(match y.1.dst with | some d=>!memN (qrz o) d | none=>true)=true) -> {s s':S}->runA C all l s=some s'->panQ C s'.1 s'.2 o=some p->panQ C s.1 s.2 o=some p
 | [],_,s,s',h,hq=>by
  simp only [runA,zD] at h
  subst h;exact hq
 | y :: l,hy,s,s',h,hq=>by
  obtain⟨s1,h1,h2⟩:=zR.1 h
  have:=qus l (fun z hz=>hy z (zb _ hz)) h2 hq
  obtain⟨g1,g2⟩:=hy y zAH
  obtain⟨e1,v,e2⟩:=qDk g1 h1
  rw [e1,e2,qut (qwT g2)] at this
  exact this
theorem qzj{C:Ctx}{all:List Oper}{o:Oper}{md:Md}(ht:tame C.n o=true)(hm:isRd md=true)(s:S):∃ v,stepA C all (o,md) s=some (upd o.dst v s.1,s.2):=by
 unfold tame at ht
 simp only [zA] at ht
 obtain⟨h1,h2,h3⟩:=ht
 have hd:okDst C.n o.dst=true:=by
  cases hd:o.dst with
  | none=>rfl
  | some d=>rw [hd] at h3;exact h3
 have hg:o.guard=none:=by
  cases hg:o.guard with
  | none=>rfl
  | some _=>rw [hg] at h1;cases h1
 have he:∀ h9,∃ v,evR C o.op s.1 h9 some=some v:=fun h9=>by
  cases ho:o.op with
  | move x=>exact⟨ev s.1 x,rfl⟩
  | assign x=>exact⟨ev s.1 x,rfl⟩
  | _=>rw [ho] at h2;cases h2
 have hmm:∃ v,evM C o.op s.1 s.2 md two=some (v,s.2):=by
  cases md with
  | pure=>obtain⟨v,h⟩:=he [];exact⟨v,by simp only [evM];rw [qdx,h];rfl⟩
  | rd ids=>obtain⟨v,h⟩:=he (onlyF (memN ids) 0 s.2);exact⟨v,by simp only [evM];rw [qdx,h];rfl⟩
  | _=>cases hm
 obtain⟨v,hv⟩:=hmm
 refine⟨v,?_⟩
 simp only [stepA,hd,cond_true,actA,hg,hv,Option.map_some]
theorem qpa{C:Ctx}{all:List Oper}:(l r:List (Oper×Md))->(s:S)->runA C all (l++r) s=(runA C all l s).bind (runA C all r)
 | [],r,s=>rfl
 | x :: l,r,s=>by
  simp only [List.cons_append,runA]
  cases h:stepA C all x s with
  | none=>rfl
  | some s1=>simp only [Option.bind_some];exact qpa l r s1
theorem qwH(hE:E.Ok){mds:List Md}{m m2:Nat->Nat}{is:List Nat}(hS:Spec ops.toList (zipM ops.toList mds) m)(hP:PSpec E.C.n is (zipM ops.toList mds) m2){i0:Nat}{x0:Oper×Md}(h0:(zipM ops.toList mds)[i0]? = some x0)(hi0:i0∈is)(hg0:x0.1.guard=none){p:XPkg}{u:Unit}(hp:p.r=some (.inr u))
  {H:List O} {tp:Nat->V} (htd:∀ o∈ops.toList,∀ d,o.dst=some d->tp d=.bad) (hQ:∀ a w',At E (tp,p.h) a w'->Q (.panic [{ v:=panV p.ty,recovered:=false }]) a w'):(fuel:Nat)->(k:Nat)->(listed:Array Bool) -> {s s':S} -> {a:Act} -> {w:World} ->
  listed.size=ops.size->(left ops listed).length<=fuel->Shut ops listed->i0∈left ops listed->runA E.C ops.toList (sel ops mds ((left ops listed).filter fun j=>decide (j<i0))) s=some s'->s'.2=H->panQ E.C s'.1 H x0.1.op=some p->(∀ i,tp i=.bad\/tp i=s.1 i)->At E s a w ->
  wpOpsIn (WF E.r) E.n E.P ops Q (Region.linearise.go .any ops fuel k listed []) a w
 | 0,k,listed,s,s',a,w,hl,hf,hc,hi,hr,hH,hq,htp,hat=>by
  have:left ops listed = []:=zBL.1 (by omega)
  rw [this] at hi
  cases hi
 | fuel+1,k,listed,s,s',a,w,hl,hf,hc,hi,hr,hH,hq,htp,hat=>by
  simp only [Region.linearise.go]
  change wpOpsIn (WF E.r) E.n E.P ops Q (match (Region.ready .any ops listed)[k % (Region.ready .any ops listed).length]? with
   | some i=>Region.linearise.go .any ops fuel (k / (Region.ready .any ops listed).length) (listed.setIfInBounds i true) [i]
   | none=>[].reverse) a w
  cases hrd:(Region.ready .any ops listed)[k % (Region.ready .any ops listed).length]? with
  | none=>
   exfalso
   have hnil:Region.ready .any ops listed = []:=by
    cases hr:Region.ready .any ops listed with
    | nil=>rfl
    | cons x xs=>
     rw [hr] at hrd
     have hlt:k % (x :: xs).length<(x :: xs).length:=zCX _ (by simp)
     simp at hrd
     simp at hlt
     omega
   cases hL:left ops listed with
   | nil=>rw [hL] at hi;cases hi
   | cons i rest=>
    have hi:i∈left ops listed:=by rw [hL];simp
    simp only [left,zc,zg] at hi
    have:i∈Region.ready .any ops listed:=by
     simp only [Region.ready,zc,zg]
     refine⟨hi.1,?_⟩
     rw [zA]
     refine⟨hi.2,?_⟩
     simp only [hi.1,zd,Option.map_some,zBQ]
     rw [zBW]
     intro e he
     cases hb:Region.binds .any e with
     | false=>rfl
     | true=>
      simp only [Bool.not_true,Bool.false_or]
      obtain⟨x,hx⟩:∃ x,(zipM ops.toList mds)[i]? = some x:=⟨(zipM ops.toList mds)[i]'(by rw [qcj];simpa using hi.1),by simp⟩
      have hxo:=qfT hx
      rw [zd hi.1,zD] at hxo
      have hlt:=hS.lt i x hx e ⟨hxo▸he,hb⟩
      cases hq:listed.getD e.on true with
      | true=>
       have hsz:e.on<listed.size:=by omega
       rw [zP,zd hsz] at hq ⊢
       simpa using hq
      | false=>
       have hmem:e.on∈left ops listed:=by
        simp only [left,zc,zg,hq]
        exact⟨by omega,rfl⟩
       have hsort:=qiw (ops:=ops) listed
       rw [hL] at hmem hsort
       rw [zAA] at hsort
       rcases zi.1 hmem with h | h
       ·omega
       ·have:=hsort.1 _ h;omega
    rw [hnil] at this
    cases this
  | some i=>
   simp only []
   rw [linearise_go_acc,List.reverse_singleton,List.singleton_append]
   have hrd:i∈Region.ready .any ops listed:=zh hrd
   simp only [Region.ready,zc,zg,zA] at hrd
   obtain⟨hlt,hun,haf⟩:=hrd
   obtain⟨x,hx⟩:∃ x,(zipM ops.toList mds)[i]? = some x:=⟨(zipM ops.toList mds)[i]'(by rw [qcj];simpa using hlt),by simp⟩
   have hxo:=qfT hx
   rw [hxo] at haf
   simp only [Option.map_some,zBQ] at haf
   rw [zBW] at haf
   have hedge:∀ e,qeu x.1 e->listed.getD e.on false=true:=fun e ⟨he,hb⟩=>by
    have:=haf e he
    rw [hb] at this
    simpa using this
   have hmem:i∈left ops listed:=by simp only [left,zc,zg];exact⟨hlt,hun⟩
   have hsrt:=qiw (ops:=ops) listed
   obtain⟨pre,post,hL,hpre,hrest⟩:=qnz hsrt hmem
   have hset:=qsU (ops:=ops) hl hlt
   rw [hrest] at hset
   have hpost:∀ q∈post,i<q:=fun q hq=>by
    rw [hL,zBo] at hsrt
    exact (zAA.1 hsrt.2.1).1 q hq
   have hsw:∀ j∈pre,∀ y,(zipM ops.toList mds)[j]? = some y->qrm ops.toList y.1 y.2 x.1 x.2=true:=fun j hj y hy=>by
    rcases hS.pair i x hx j y (hpre j hj) hy with hb | hb
    ·exact absurd (qkU hS hl hc i x hx hedge j hb) (qwU hl (by rw [hL];simp [hj]))
    ·exact hb
   have hpp:∀ j∈pre,∀ y,(zipM ops.toList mds)[j]? = some y->qpk E.C.n is j y.1 y.2 i x.1 x.2=true:=fun j hj y hy=>by
    rcases hP.pair i x hx j y (hpre j hj) hy with hb | hb
    ·exact absurd (qnJ rfl hP.lt hP.mask hl hc i x hx hedge j hb) (qwU hl (by rw [hL];simp [hj]))
    ·exact hb
   have hmono:∀ q,listed.getD q false=true->(listed.setIfInBounds i true).getD q false=true:=fun q hq=>by
    simp only [zP,zk] at hq ⊢
    split
    ·split <;> simp_all
    ·exact hq
   have hshut:Shut ops (listed.setIfInBounds i true):=by
    intro j o hj hlj e he
    by_cases hji:i=j
    ·subst hji
     rw [hxo,zD] at hj
     subst hj
     exact hmono _ (hedge e he)
    ·refine hmono _ (hc j o hj ?_ e he)
     simp only [zP,zk,hji,if_false] at hlj ⊢
     exact hlj
   have hlen:(left ops (listed.setIfInBounds i true)).length<=fuel:=by
    have:=congrArg List.length hset
    have h3:=congrArg List.length hL
    simp at this h3
    omega
   have hselm:∀ l,∀ y∈sel ops mds l,∃ j∈l,(zipM ops.toList mds)[j]? = some y:=fun l y hy=>by
    obtain⟨j,hj,hpj⟩:=zBV.1 hy
    exact⟨j,hj,hpj⟩
   rcases zCE i i0 with hlt0 | heq | hgt
   ·-- ahead of it
    have hf1:pre.filter (fun j=>decide (j<i0))=pre:=zAX.2 fun q hq=>by have:=hpre q hq;simp;omega
    rw [hL,zAL,hf1,zAa,zJ (by simpa using hlt0)] at hr
    have hsel:sel ops mds (pre++i :: post.filter (fun j=>decide (j<i0)))=sel ops mds pre++x :: sel ops mds (post.filter fun j=>decide (j<i0)):=by
     simp [sel,zAf,hx]
    rw [hsel] at hr
    obtain⟨s1,h1,h2⟩:=qiB (sel ops mds pre) (x:=x) (fun y hy=>by
     obtain⟨j,hj,hpj⟩:=hselm _ y hy
     exact hsw j hj y hpj) hr
    refine qhG hE hx h1 hat fun a w hat=>qwH hE hS hP h0 hi0 hg0 hp htd hQ fuel _ _ (by simp [hl]) hlen hshut ?_ (s':=s') ?_ hH hq (qvN (htd x.1 (qoC (zh hx))) h1 htp) hat
    ·rw [hset]
     rw [hL] at hi
     simp only [zU,zi] at hi ⊢
     rcases hi with hi | hi | hi
     ·exact .inl hi
     ·omega
     ·exact .inr hi
    ·rw [hset,zAL,hf1]
     simpa [sel,zAf] using h2
   ·subst heq
    obtain rfl:x=x0:=by rw [h0] at hx;exact (zD _ _▸hx).symm
    have hf1:pre.filter (fun j=>decide (j<i))=pre:=zAX.2 fun q hq=>by have:=hpre q hq;simp;omega
    have hf2:post.filter (fun j=>decide (j<i)) = []:=zAV.2 fun q hq=>by have:=hpost q hq;simp;omega
    rw [hL,zAL,hf1,zAa,zL (by simp),hf2,List.append_nil] at hr
    subst hH
    have:=qus (sel ops mds pre) (fun y hy=>by
     obtain⟨j,hj,hpj⟩:=hselm _ y hy
     have:=hpp j hj y hpj
     unfold qpk at this
     rw [qgV.2 hi0] at this
     simp only [cond_true,zA] at this
     exact this.1) hr hq
    exact qtO hE hxo hg0 this hp hat htp hQ
   ·-- behind it: a move
    have h0p:i0∈pre:=by
     rw [hL] at hi
     simp only [zU,zi] at hi
     rcases hi with hi | hi | hi
     ·exact hi
     ·omega
     ·have:=hpost _ hi;omega
    have hpx:=hpp i0 h0p x0 h0
    unfold qpk at hpx
    rw [qgV.2 hi0] at hpx
    simp only [cond_true,zA] at hpx
    obtain⟨-,⟨ht1,htm⟩,ht2⟩:=hpx
    obtain⟨v,hv⟩:=qzj (all:=ops.toList) ht1 htm s'
    have hf2:(i :: post).filter (fun j=>decide (j<i0)) = []:=zAV.2 fun q hq=>by
     rcases zi.1 hq with rfl | hq
     ·simp;omega
     ·have:=hpost q hq;simp;omega
    have hf3:post.filter (fun j=>decide (j<i0)) = []:=zAV.2 fun q hq=>by have:=hpost q hq;simp;omega
    rw [hL,zAL,hf2,List.append_nil] at hr
    have hr2:runA E.C ops.toList (sel ops mds (pre.filter fun j=>decide (j<i0))++x :: []) s=some (upd x.1.dst v s'.1,s'.2):=by
     rw [qpa,hr]
     simp only [Option.bind_some,runA,hv]
    obtain⟨s1,h1,h2⟩:=qiB (sel ops mds (pre.filter fun j=>decide (j<i0))) (x:=x) (fun y hy=>by
     obtain⟨j,hj,hpj⟩:=hselm _ y hy
     exact hsw j (zc.1 hj).1 y hpj) hr2
    refine qhG hE hx h1 hat fun a w hat=>qwH hE hS hP h0 hi0 hg0 hp htd hQ fuel _ _ (by simp [hl]) hlen hshut ?_ (s':=(upd x.1.dst v s'.1,s'.2)) ?_ hH ?_ (qvN (htd x.1 (qoC (zh hx))) h1 htp) hat
    ·rw [hset];simp [h0p]
    ·rw [hset,zAL,hf3,List.append_nil]
     rwa [List.append_nil] at h2
    ·rw [qut (qwT ht2)];exact hq
end
end Go.Abs
