import Derived.Test.YtcjecibocjbdmaaAbsNat
import Derived.Test.YtcjecibocjbdmaaAbsConv
import Derived.RangeFuncNested
import Derived.RangeFuncLeaves
import Derived.Orders
import Derived.CallsIn
namespace Go.Abs
open Go.RowKit
structure Env where
 P:Program
 C:Ctx
 r:Option Nat
 n:Nat
 w0:World
 A:Nat->Prop
 M0:Nat->Prop
 Kp:List Deferred->World->List O->(Nat->Loc)->Prop
def IterAt(F:Fence)(n:Nat)(P:Program)(g:Nat)(lb:Array Value)(xs:List (Array Value))(Kp:World->World->Prop)(w:World):Prop:=
 ∀ (l:Nat) (J:Nat->World->Prop) (Jx:World->Prop) (W:World),Below w.heap.size w W ->
  (∀ i X Y,J i X->Below X.heap.size X Y->J i Y)->(∀ X Y,Jx X->Below X.heap.size X Y->Jx Y) ->
  (∀ i args W1,xs[i]? = some args->J i W1->YieldAt F (n - 1) P l args W1 fun e W'=>(e=.returned (.bool true)/\J (i+1) W'/\Kp W1 W')\/(e=.returned (.bool false)/\Jx W')) ->
  J 0 W->CallsIn F n P (tgtF g) (fstF g lb ++ #[.func (.yield l) #[] #[]]++capF g lb) W fun e W'=>(∃ v,e=.returned v)/\(J xs.length W'\/Jx W')
def IterAtO(F:Fence)(n:Nat)(P:Program)(g:Nat)(lb:Array Value)(xs:List (Array Value))(M:Nat->Prop)(w:World):Prop:=
 ∀ (l:Nat) (J:World->Nat->World->Prop) (Jx:World->World->Prop) (W:World),Below w.heap.size w W->w.heap.size<=l->l<W.heap.size ->
  (∀ B,Below W.heap.size W B->J B 0 B) ->
  (∀ B i X Y,J B i X->Below X.heap.size X Y->J B i Y)->(∀ B X Y,Jx B X->Below X.heap.size X Y->Jx B Y) ->
  (∀ B i X,J B i X->B.heap.size<=X.heap.size/\∀ b,b<B.heap.size->b≠l->¬ M b->X.heap[b]? = B.heap[b]?) ->
  (∀ B i args X,xs[i]? = some args->J B i X->YieldAt F (n - 1) P l args X fun e W'=>(e=.returned (.bool true)/\J B (i+1) W')\/(e=.returned (.bool false)/\Jx B W')) ->
  CallsIn F n P (tgtF g) (fstF g lb ++ #[.func (.yield l) #[] #[]]++capF g lb) W fun e W'=>(∃ v,e=.returned v)/\∃ B,J B xs.length W'\/Jx B W'
def IterAt2(F:Fence)(n:Nat)(P:Program)(g:Nat)(lb:Array Value){α:Type}(ys:List α)(vv:α->List V)(M M':Nat->Prop)(w:World):Prop:=
 ∀ (l:Nat) (J:World->Nat->World->Prop) (Jx:World->World->Prop) (W:World),Below w.heap.size w W->w.heap.size<=l->l<W.heap.size ->
  (∀ B,Below W.heap.size W B->J B 0 B) ->
  (∀ B i X Y,J B i X->Below X.heap.size X Y->J B i Y)->(∀ B X Y,Jx B X->Below X.heap.size X Y->Jx B Y) ->
  (∀ B i X,J B i X->B.heap.size<=X.heap.size/\∀ b,b<B.heap.size->b≠l->¬ M b->X.heap[b]? = B.heap[b]?) ->
  (∀ B i y args X0 X,ys[i]? = some y->J B i X0->Below X0.heap.size X0 X->RVs X (fun b=>b<X0.heap.size/\(B.heap.size<=b\/M' b\/b=l)) [] σ0 (vv y) args.toList ->
   YieldAt F (n - 1) P l args X fun e W'=>(e=.returned (.bool true)/\J B (i+1) W')\/(e=.returned (.bool false)/\Jx B W')) ->
  CallsIn F n P (tgtF g) (fstF g lb ++ #[.func (.yield l) #[] #[]]++capF g lb) W fun e W'=>(∃ v,e=.returned v)/\∃ B,J B ys.length W'\/Jx B W'
def sv0:V->Value
 | .int k n=>.int k n
 | .bool b=>.bool b
 | _=>undef
def is0:V->Bool
 | .int _ _=>true
 | .bool _=>true
 | _=>false
def svOf:V->Value
 | .agg vs=>.agg (vs.map sv0).toArray
 | .int k n=>.int k n
 | .bool b=>.bool b
 | _=>undef
def isSv:V->Bool
 | .agg vs=>vs.all is0
 | .int _ _=>true
 | .bool _=>true
 | _=>false
structure IOk (P:Program) (C:Ctx):Prop where
 fn : ∀ g caps h p, C.I g caps h = some p → ∃ f c, P.funcs[tgtF g]? = some f ∧ (f.name == "runtime.NumGoroutine") = false ∧ f.body = some c
 it:∀ g caps h p,C.I g caps h=some p->p.ok=true->∀ w0 A M0 w σ,Gl C.gs w0 A->Rep w0 A M0 w h σ->∀ vs,RVs w (mutb M0 h σ) h σ caps vs->∀ r n,
  IterAt2 (WF r) n P g vs.toArray p.xs p.v (own h σ) (mutb M0 h σ) w
abbrev markOf(D:Nat):Deferred:={ target:=.collected D,args:=#[] }
structure Env.Ok (E:Env):Prop where
 types:TOk E.P E.C.T
 calls:GOk E.P E.C
 its:IOk E.P E.C
 glob:Gl E.C.gs E.w0 E.A
 mixed:E.P.follows .mixedOrders=true
 kp:∀ ds w h σ w' h' σ',Rep E.w0 E.A E.M0 w h σ->Rep E.w0 E.A E.M0 w' h' σ'->Far E.C.fx E.C.fl E.M0 w h σ E.M0 w' h' σ'->E.Kp ds w h σ->E.Kp ds w' h' σ'
 km:E.r=none->(∃ g caps h p,E.C.I g caps h=some p)->∀ ds w h σ w' h' σ' D,Rep E.w0 E.A E.M0 w h σ->Rep E.w0 E.A E.M0 w' h' σ'->Far E.C.fx E.C.fl E.M0 w h σ E.M0 w' h' σ'->E.Kp ds w h σ->w.heap.size<=D->w'.heap[D]? = some (.deferred (some []))->E.Kp (markOf D :: ds) w' h' σ'
 kl:∀ l,E.r=some l->∀ ds w h σ,E.Kp ds w h σ->∃ rc,w.heap[l]? = some (.loop rc)
def At(E:Env)(s:S)(a:Act)(w:World):Prop:=
 ∃ σ,Rep E.w0 E.A E.M0 w s.2 σ/\(∀ i,RV w (mutb E.M0 s.2 σ) s.2 σ (s.1 i) (a.tmps.getD i undef))/\a.tmps.size=E.C.n/\E.Kp a.defers w s.2 σ
section
variable {E : Env} {ops : Array Oper} {Q : Exit -> Act -> World -> Prop}
theorem put_defers(a:Act)(dst:Option Tmp)(x:Value):(a.put dst x).defers=a.defers:=by cases dst <;> rfl
theorem put_size(a:Act)(dst:Option Tmp)(x:Value):(a.put dst x).tmps.size=a.tmps.size:=by cases dst <;> simp [Act.put]
theorem put_get(a:Act)(d:Tmp)(x:Value)(hd:d<a.tmps.size)(i:Nat):(a.put (some d) x).tmps.getD i undef=bif Nat.beq d i then x else a.tmps.getD i undef:=by
 simp only [Act.put,za,zy]
 by_cases h:d=i
 ·subst h;simp [hd]
 ·simp [h,show Nat.beq d i=false from zAd.2 fun e=>h (zA e)]
theorem put_rv{w:World}{M:Nat->Prop}{h:List O}{σ:Nat->Loc}{t:Nat->V}{a:Act}{dst:Option Tmp}{n:Nat}(hd:okDst n dst=true)(hn:a.tmps.size=n)
  (hr:∀ i,RV w M h σ (t i) (a.tmps.getD i undef)) {v:V} {x:Value} (hv:RV w M h σ v x) (i:Nat):RV w M h σ (upd dst v t i) ((a.put dst x).tmps.getD i undef):=by
 cases dst with
 | none=>exact hr i
 | some d=>
  rw [put_get a d x (by rw [hn];exact zD hd)]
  simp only [upd]
  cases Nat.beq d i with
  | true=>exact hv
  | false=>exact hr i
theorem At.put{s:S}{a:Act}{w:World}(hat:At E s a w){dst:Option Tmp}(hd:okDst E.C.n dst=true):At E (upd dst .undef s.1,s.2) (a.put dst undef) w:=by
 obtain⟨σ,R,hr,hn,hk⟩:=hat
 exact⟨σ,R,put_rv hd hn hr (by simp only [RV]),by rw [put_size,hn],by rw [put_defers];exact hk⟩
theorem At.next{s:S}{a:Act}{w w':World}(hE:E.Ok){σ σ':Nat->Loc}(R:Rep E.w0 E.A E.M0 w s.2 σ)(hr:∀ i,RV w (mutb E.M0 s.2 σ) s.2 σ (s.1 i) (a.tmps.getD i undef))(hn:a.tmps.size=E.C.n)(hk:E.Kp a.defers w s.2 σ)
  {dst:Option Tmp} (hd:okDst E.C.n dst=true) {H:List O} (hx:Next E.w0 E.A E.M0 w s.2 σ w' H σ') {v:V} {x:Value} (hv:RV w' (mutb E.M0 H σ') H σ' v x):At E (upd dst v s.1,H) (a.put dst x) w':=
 ⟨σ',hx.rep,put_rv hd hn (fun i=>hx.rv (hr i)) hv,by rw [put_size,hn],by rw [put_defers];exact hE.kp _ _ _ _ _ _ _ R hx.rep (.of_next hx) hk⟩
theorem getD_bool{a:Act}{d:Nat}{b:Bool}(h:a.tmps.getD d undef=.bool b):a.tmps[d]? = some (.bool b):=by
 rw [za] at h
 cases hx:a.tmps[d]? with
 | none=>rw [hx] at h;simp [undef] at h
 | some v=>rw [hx] at h;simp at h;rw [h]
theorem step_sound(hE:E.Ok){o:Oper}{md:Md}{s s':S}{a:Act}{w:World}(hs:stepA E.C ops.toList (o,md) s=some s')(hat:At E s a w){K:Act->World->Prop}(hK:∀ a w,At E s' a w->K a w) :
  if Region.wanted o (yielded ops a.tmps) then o.wpIn (WF E.r) E.n E.P a w K Q else (∀ f,o.about E.P w a.eval=some f->(WF E.r).fn f)/\K (a.put o.dst undef) w:=by
 obtain⟨hd,v,H,hact,rfl⟩:=stepA_some hs
 simp only at hd hact hK
 have hat':=hat
 obtain⟨σ,R,hr,hn,hk⟩:=hat'
 have run:evM E.C o.op s.1 s.2 md two=some (v,H)->o.wpIn (WF E.r) E.n E.P a w K Q:=fun he=>by
  obtain⟨v',H',h1,h2⟩:=evM_sound (r:=E.r) (n:=E.n) hE.types hE.calls hE.glob R hr he
  simp only [two,zC,zM] at h1
  obtain⟨rfl,rfl⟩:=h1
  exact h2 K Q fun x w' ⟨σ',hx,hv⟩=>hK _ _ (At.next hE R hr hn hk hd hx hv)
 unfold actA at hact
 cases hg:o.guard with
 | none=>
  rw [hg] at hact
  simp only [Region.wanted,hg,if_true]
  exact run hact
 | some gw=>
  obtain⟨j,want⟩:=gw
  rw [hg] at hact
  simp only at hact
  cases hj:dstOf ops.toList j with
  | none=>rw [hj] at hact;cases hact
  | some d=>
   rw [hj] at hact
   simp only at hact
   cases ht:s.1 d with
   | bool b=>
    rw [ht] at hact
    simp only at hact
    have hb:=hr d
    rw [ht] at hb
    simp only [RV] at hb
    have hy:yielded ops a.tmps j=some b:=by
     have hj':(ops[j]?).bind (·.dst)=some d:=by
      unfold dstOf at hj
      simp only [zj] at hj
      split at hj
      ·rename_i o' ho';rw [ho'];exact hj
      ·cases hj
     simp only [yielded,hj',Option.bind_some,getD_bool hb]
    simp only [Region.wanted,hg,hy]
    by_cases hbw:b=want
    ·subst hbw
     simp only [if_true] at hact
     simp only [zAs,if_true]
     exact run hact
    ·simp only [hbw,if_false,zC,zM] at hact
     obtain⟨rfl,rfl⟩:=hact
     have:(some b==some want)=false:=by simpa using hbw
     simp only [this,zp,if_false]
     exact⟨fun _ _=>trivial,hK _ _ (hat.put hd)⟩
   | undef=>
    rw [ht] at hact
    simp only [zC,zM] at hact
    obtain⟨rfl,rfl⟩:=hact
    have hb:=hr d
    rw [ht] at hb
    simp only [RV] at hb
    have hj':(ops[j]?).bind (·.dst)=some d:=by
     unfold dstOf at hj
     simp only [zj] at hj
     split at hj
     ·rename_i o' ho';rw [ho'];exact hj
     ·cases hj
    have hy:yielded ops a.tmps j=none:=by
     simp only [yielded,hj',Option.bind_some]
     rw [za] at hb
     cases hx:a.tmps[d]? with
     | none=>rfl
     | some v=>rw [hx] at hb;simp at hb;subst hb;rfl
    simp only [Region.wanted,hg,hy]
    have:((none:Option Bool)==some want)=false:=rfl
    simp only [this,zp,if_false]
    exact⟨fun _ _=>trivial,hK _ _ (hat.put hd)⟩
   | _=>rw [ht] at hact;cases hact
def sel(ops:Array Oper)(mds:List Md)(is:List Nat):List (Oper×Md):=is.filterMap fun i=>(zipM ops.toList mds)[i]?
theorem zipM_get:(r:List Oper)->(mds:List Md)->(i:Nat)->(zipM r mds)[i]?.map (·.1)=r[i]?
 | [],mds,i=>by simp [zipM]
 | o :: r,mds,0=>by simp [zipM]
 | o :: r,mds,i+1=>by simp only [zipM,List.getElem?_cons_succ];exact zipM_get r mds.tail i
theorem zipM_none{mds:List Md}{i:Nat}(h:(zipM ops.toList mds)[i]? = none):ops[i]? = none:=by
 have:=zipM_get ops.toList mds i
 rw [h] at this
 simpa using this.symm
theorem zipM_some{mds:List Md}{i:Nat}{x:Oper×Md}(h:(zipM ops.toList mds)[i]? = some x):ops[i]? = some x.1:=by
 have:=zipM_get ops.toList mds i
 rw [h] at this
 simpa using this.symm
theorem range_filterMap{α:Type}(l:List α):(List.range l.length).filterMap (fun i=>l[i]?)=l:=by
 induction l with
 | nil=>rfl
 | cons x l ih=>
  rw [List.length_cons,zBC,List.filterMap_cons]
  simp only [List.getElem?_cons_zero]
  rw [zBO]
  congr 1
theorem zipM_length:(r:List Oper)->(mds:List Md)->(zipM r mds).length=r.length
 | [],_=>rfl
 | o :: r,mds=>by simp [zipM,zipM_length r]
theorem sel_range(mds:List Md):sel ops mds (List.range ops.size)=zipM ops.toList mds:=by
 have:=range_filterMap (zipM ops.toList mds)
 rw [zipM_length] at this
 simpa [sel] using this
theorem sel_cons_some{mds:List Md}{i:Nat}{is:List Nat}{x:Oper×Md}(h:(zipM ops.toList mds)[i]? = some x):sel ops mds (i :: is)=x :: sel ops mds is:=by
 simp [sel,h]
theorem wpOps_step(hE:E.Ok){i:Nat}{rest:List Nat}{x:Oper×Md}{mds:List Md}(hi:(zipM ops.toList mds)[i]? = some x){s s':S}{a:Act}{w:World}(hs:stepA E.C ops.toList x s=some s')(hat:At E s a w)
  (hK:∀ a w,At E s' a w->wpOpsIn (WF E.r) E.n E.P ops Q rest a w):wpOpsIn (WF E.r) E.n E.P ops Q (i :: rest) a w:=by
 simp only [wpOpsIn,zipM_some hi]
 exact step_sound hE (md:=x.2) hs hat hK
theorem seq_sound(hE:E.Ok){mds:List Md}:(is:List Nat) -> {s s':S} -> {a:Act} -> {w:World}->runA E.C ops.toList (sel ops mds is) s=some s'->At E s a w->(∀ a w,At E s' a w->Q .normal a w) ->
  wpOpsIn (WF E.r) E.n E.P ops Q is a w
 | [],s,s',a,w,hr,hat,hQ=>by
  simp only [sel,zBN,runA,zC] at hr
  subst hr
  exact hQ a w hat
 | i :: is,s,s',a,w,hr,hat,hQ=>by
  cases hi:(zipM ops.toList mds)[i]? with
  | none=>
   simp only [sel,List.filterMap_cons,hi] at hr
   simp only [wpOpsIn,zipM_none hi]
   exact seq_sound hE is hr hat hQ
  | some x=>
   rw [sel_cons_some hi] at hr
   obtain⟨s1,h1,h2⟩:=zX.1 hr
   exact wpOps_step hE hi h1 hat fun a w h=>seq_sound hE is h2 h hQ
def binding(o:Oper)(e:Edge):Prop:=e∈o.after/\Region.binds .any e=true
structure Spec (all:List Oper) (its:List (Oper×Md)) (m:Nat->Nat):Prop where
 lt:∀ i x,its[i]? = some x->∀ e,binding x.1 e->e.on<i
 mask:∀ i x,its[i]? = some x->∀ q,(m i).testBit q=true->∃ e,binding x.1 e/\(q=e.on\/(m e.on).testBit q=true)
 pair:∀ i x,its[i]? = some x->∀ p y,p<i->its[p]? = some y->(m i).testBit p=true\/swapOk all y.1 y.2 x.1 x.2=true
theorem needs_go(masks:List Nat)(q:Nat):(es:List Edge)->(s:Nat)->(es.foldl (fun s e=>bif Region.binds .any e then s ||| 2 ^ e.on ||| masks.getD e.on 0 else s) s).testBit q=true ->
  s.testBit q=true\/∃ e∈es,Region.binds .any e=true/\(q=e.on\/(masks.getD e.on 0).testBit q=true)
 | [],s,h=>.inl h
 | e :: es,s,h=>by
  rw [List.foldl_cons] at h
  rcases needs_go masks q es _ h with h | ⟨e',h1,h2⟩
  ·cases hb:Region.binds .any e with
   | false=>rw [hb] at h;exact .inl h
   | true=>
    rw [hb] at h
    simp only [cond_true,Nat.testBit_or,zAB,Nat.testBit_two_pow,zJ] at h
    rcases h with (h | h) | h
    ·exact .inl h
    ·exact .inr ⟨e,by simp,hb,.inl h.symm⟩
    ·exact .inr ⟨e,by simp,hb,.inr h⟩
  ·exact .inr ⟨e',by simp [h1],h2⟩
theorem needs_spec{masks:List Nat}{o:Oper}{q:Nat}(h:(needs masks o).testBit q=true):∃ e,binding o e/\(q=e.on\/(masks.getD e.on 0).testBit q=true):=by
 rcases needs_go masks q o.after.toList 0 h with h | ⟨e,h1,h2,h3⟩
 ·simp at h
 ·exact⟨e,⟨by simpa using h1,h2⟩,h3⟩
theorem drawOkF_spec{all:List Oper}:(r:List Oper)->(mds:List Md)->(masks:List Nat)->(bef:List (Oper×Md))->masks.length=bef.length->drawOkF all r mds bef.length masks bef=true ->
  Spec all bef (fun i=>masks.getD i 0)->∃ m,Spec all (bef++zipM r mds) m
 | [],mds,masks,bef,hl,_,hs=>⟨_,by simpa [zipM] using hs⟩
 | o :: r,mds,masks,bef,hl,hd,hs=>by
  simp only [drawOkF,zB] at hd
  obtain⟨h1,h2,h3⟩:=hd
  have hlt:∀ e,binding o e->e.on<bef.length:=fun e ⟨he,hb⟩=>by
   have:=zg.1 h1 e (by simpa using he)
   rw [hb] at this
   simp only [Bool.not_true,Bool.false_or] at this
   exact zD this
  have hget:∀ i x,(bef ++ [(o,mds.headD .full)])[i]? = some x->(bef[i]? = some x/\i<bef.length)\/(i=bef.length/\x=(o,mds.headD .full)):=fun i x hx=>by
   rcases zAE i bef.length with h | h
   ·rw [zm h] at hx;exact .inl ⟨hx,h⟩
   ·rw [zt h] at hx
    have:i - bef.length=0:=by
     rcases zBM (i - bef.length) with h | h
     ·exact h
     ·rw [zK (by simp;omega)] at hx;cases hx
    rw [this] at hx
    simp only [List.getElem?_cons_zero,zC] at hx
    exact .inr ⟨by omega,hx.symm⟩
  have hm:∀ i,i<bef.length->(masks ++ [needs masks o]).getD i 0=masks.getD i 0:=fun i hi=>by
   simp [List.getD,zm (hl▸hi:i<masks.length)]
  have hm':(masks ++ [needs masks o]).getD bef.length 0=needs masks o:=by simp [List.getD,<- hl]
  have:=drawOkF_spec r mds.tail (masks ++ [needs masks o]) (bef ++ [(o,mds.headD .full)]) (by simp [hl]) (by simpa using h3) ⟨?_,?_,?_⟩
  ·simpa [zipM] using this
  ·intro i x hx e he
   rcases hget i x hx with⟨hx,_⟩ | ⟨rfl,rfl⟩
   ·exact hs.lt i x hx e he
   ·exact hlt e he
  ·intro i x hx q hq
   rcases hget i x hx with⟨hx,hi⟩ | ⟨rfl,rfl⟩
   ·rw [hm i hi] at hq
    obtain⟨e,he,hq⟩:=hs.mask i x hx q hq
    have:=hs.lt i x hx e he
    exact⟨e,he,by rw [hm _ (by omega)];exact hq⟩
   ·rw [hm'] at hq
    obtain⟨e,he,hq⟩:=needs_spec hq
    exact⟨e,he,by rw [hm _ (hlt e he)];exact hq⟩
  ·intro i x hx p y hp hy
   rcases hget i x hx with⟨hx,hi⟩ | ⟨rfl,rfl⟩
   ·rw [hm i hi]
    rcases hget p y hy with⟨hy,_⟩ | ⟨rfl,_⟩
    ·exact hs.pair i x hx p y hp hy
    ·omega
   ·rw [hm']
    rcases hget p y hy with⟨hy,_⟩ | ⟨rfl,_⟩
    ·have:=zg.1 h2 (y,p) (List.mem_zipIdx_iff_getElem?.2 (by simpa using hy))
     simpa using this
    ·omega
def Shut(ops:Array Oper)(listed:Array Bool):Prop:=∀ i o,ops[i]? = some o->listed.getD i true=true->∀ e,binding o e->listed.getD e.on false=true
theorem mask_listed{mds:List Md}{m:Nat->Nat}(hS:Spec ops.toList (zipM ops.toList mds) m){listed:Array Bool}(hl:listed.size=ops.size)(hc:Shut ops listed) :
  (i:Nat)->(x:Oper×Md)->(zipM ops.toList mds)[i]? = some x->(∀ e,binding x.1 e->listed.getD e.on false=true)->∀ q,(m i).testBit q=true->listed.getD q false=true
 | i,x,hx,he,q,hq=>by
  obtain⟨e,hb,hq⟩:=hS.mask i x hx q hq
  have hlt:=hS.lt i x hx e hb
  have hle:=he e hb
  rcases hq with rfl | hq
  ·exact hle
  ·have hsz:e.on<ops.size:=by
    rw [<- hl]
    rw [za] at hle
    cases h:listed[e.on]? with
    | none=>rw [h] at hle;simp at hle
    | some b=>exact (zF.1 h).1
   have hy:∃ y,(zipM ops.toList mds)[e.on]? = some y:=⟨(zipM ops.toList mds)[e.on]'(by rw [zipM_length];simpa using hsz),by simp⟩
   obtain⟨y,hy⟩:=hy
   exact mask_listed hS hl hc e.on y hy (fun e' he'=>hc e.on y.1 (zipM_some hy) (by
    rw [za] at hle ⊢
    cases h:listed[e.on]? with
    | none=>rfl
    | some b=>rw [h] at hle;simpa using hle) e' he') q hq
termination_by i=>i
def left(ops:Array Oper)(listed:Array Bool):List Nat:=(List.range ops.size).filter fun i=>!listed.getD i true
theorem left_sorted(listed:Array Bool):(left ops listed).Pairwise (· < ·):=List.pairwise_lt_range.filter _
theorem left_set{listed:Array Bool}{i:Nat}(hl:listed.size=ops.size)(hi:i<ops.size):left ops (listed.setIfInBounds i true)=(left ops listed).filter (fun j=>j != i):=by
 unfold left
 rw [List.filter_filter]
 apply List.filter_congr
 intro j hj
 simp only [za,zy]
 by_cases h:i=j
 ·subst h;simp [hl,hi]
 ·have h':(j != i)=true:=by simpa using fun e=>h e.symm
  simp [h,h']
theorem split_sorted{l:List Nat}(hp:l.Pairwise (· < ·)){i:Nat}(hi:i∈l):∃ pre post,l=pre++i :: post/\(∀ p∈pre,p<i)/\l.filter (fun j=>j != i)=pre++post:=by
 obtain⟨pre,post,rfl⟩:=List.append_of_mem hi
 rw [List.pairwise_append] at hp
 obtain⟨_,h2,h3⟩:=hp
 rw [zAI] at h2
 have hpre:∀ p∈pre,p<i:=fun p h=>h3 p h i (by simp)
 refine⟨pre,post,rfl,hpre,?_⟩
 rw [List.filter_append,zAV]
 have e1:pre.filter (fun j=>j != i)=pre:=zAk.2 fun p h=>by have:=hpre p h;simp;omega
 have e2:post.filter (fun j=>j != i)=post:=zAk.2 fun p h=>by have:=h2.1 p h;simp;omega
 simp [e1,e2]
theorem any_sound(hE:E.Ok){mds:List Md}{m:Nat->Nat}(hS:Spec ops.toList (zipM ops.toList mds) m){s':S}(hQ:∀ a w,At E s' a w->Q .normal a w):(fuel:Nat)->(k:Nat)->(listed:Array Bool) -> {s:S} -> {a:Act} -> {w:World} ->
  listed.size=ops.size->(left ops listed).length<=fuel->Shut ops listed->runA E.C ops.toList (sel ops mds (left ops listed)) s=some s'->At E s a w ->
  wpOpsIn (WF E.r) E.n E.P ops Q (Region.linearise.go .any ops fuel k listed []) a w
 | 0,k,listed,s,a,w,hl,hf,hc,hr,hat=>by
  have:left ops listed = []:=zBg.1 (by omega)
  rw [this] at hr
  simp only [sel,zBN,runA,zC] at hr
  subst hr
  simpa [Region.linearise.go,wpOpsIn] using hQ a w hat
 | fuel+1,k,listed,s,a,w,hl,hf,hc,hr,hat=>by
  simp only [Region.linearise.go]
  change wpOpsIn (WF E.r) E.n E.P ops Q (match (Region.ready .any ops listed)[k % (Region.ready .any ops listed).length]? with
   | some i=>Region.linearise.go .any ops fuel (k / (Region.ready .any ops listed).length) (listed.setIfInBounds i true) [i]
   | none=>[].reverse) a w
  cases hi:(Region.ready .any ops listed)[k % (Region.ready .any ops listed).length]? with
  | none=>
   have hnil:Region.ready .any ops listed = []:=by
    cases hr:Region.ready .any ops listed with
    | nil=>rfl
    | cons x xs=>
     rw [hr] at hi
     have hlt:k % (x :: xs).length<(x :: xs).length:=zBP _ (by simp)
     simp at hi
     simp at hlt
     omega
   have hleft:left ops listed = []:=by
    cases hL:left ops listed with
    | nil=>rfl
    | cons i rest=>
     exfalso
     have hi:i∈left ops listed:=by rw [hL];simp
     simp only [left,zAL,zAG] at hi
     have:i∈Region.ready .any ops listed:=by
      simp only [Region.ready,zAL,zAG]
      refine⟨hi.1,?_⟩
      rw [zB]
      refine⟨hi.2,?_⟩
      simp only [hi.1,zAD,Option.map_some,zBR]
      rw [Array.all_eq_true']
      intro e he
      cases hb:Region.binds .any e with
      | false=>rfl
      | true=>
       simp only [Bool.not_true,Bool.false_or]
       obtain⟨x,hx⟩:∃ x,(zipM ops.toList mds)[i]? = some x:=⟨(zipM ops.toList mds)[i]'(by rw [zipM_length];simpa using hi.1),by simp⟩
       have hxo:=zipM_some hx
       rw [zAD hi.1,zC] at hxo
       have hlt:=hS.lt i x hx e ⟨hxo▸he,hb⟩
       cases hq:listed.getD e.on true with
       | true=>
        have hsz:e.on<listed.size:=by omega
        rw [za,zAD hsz] at hq ⊢
        simpa using hq
       | false=>
        have hmem:e.on∈left ops listed:=by
         simp only [left,zAL,zAG,hq]
         exact⟨by omega,rfl⟩
        have hsort:=left_sorted (ops:=ops) listed
        rw [hL] at hmem hsort
        rw [zAI] at hsort
        rcases zh.1 hmem with h | h
        ·omega
        ·have:=hsort.1 _ h;omega
     rw [hnil] at this
     cases this
   rw [hleft] at hr
   simp only [sel,zBN,runA,zC] at hr
   subst hr
   simpa [wpOpsIn] using hQ a w hat
  | some i=>
   simp only []
   rw [linearise_go_acc,List.reverse_singleton,List.singleton_append]
   have hrd:i∈Region.ready .any ops listed:=zr hi
   simp only [Region.ready,zAL,zAG,zB] at hrd
   obtain⟨hlt,hun,haf⟩:=hrd
   obtain⟨x,hx⟩:∃ x,(zipM ops.toList mds)[i]? = some x:=⟨(zipM ops.toList mds)[i]'(by rw [zipM_length];simpa using hlt),by simp⟩
   have hxo:=zipM_some hx
   rw [hxo] at haf
   simp only [Option.map_some,zBR] at haf
   rw [Array.all_eq_true'] at haf
   have hedge:∀ e,binding x.1 e->listed.getD e.on false=true:=fun e ⟨he,hb⟩=>by
    have:=haf e he
    rw [hb] at this
    simpa using this
   have hmem:i∈left ops listed:=by simp only [left,zAL,zAG];exact⟨hlt,hun⟩
   obtain⟨pre,post,hL,hpre,hrest⟩:=split_sorted (left_sorted (ops:=ops) listed) hmem
   have hset:=left_set (ops:=ops) hl hlt
   rw [hrest] at hset
   rw [hL] at hr
   have hsel:sel ops mds (pre++i :: post)=sel ops mds pre++x :: sel ops mds post:=by
    simp [sel,List.filterMap_append,hx]
   rw [hsel] at hr
   obtain⟨s1,h1,h2⟩:=front_sound (sel ops mds pre) (x:=x) (fun p hp=>by
    obtain⟨j,hj,hpj⟩:=List.mem_filterMap.1 hp
    rcases hS.pair i x hx j p (hpre j hj) hpj with hb | hb
    ·exfalso
     have:=mask_listed hS hl hc i x hx hedge j hb
     have hjl:j∈left ops listed:=by rw [hL];simp [hj]
     simp only [left,zAL,zAG] at hjl
     have hsz:j<listed.size:=by omega
     rw [za,zAD hsz] at this hjl
     simp at this hjl
     rw [this] at hjl;simp at hjl
    ·exact hb) hr
   refine wpOps_step hE hx h1 hat fun a w hat=>any_sound hE hS hQ fuel _ _ (by simp [hl]) ?_ ?_ ?_ hat
   ·have:=congrArg List.length hset
    have h3:=congrArg List.length hL
    simp at this h3
    omega
   ·intro j o hj hlj e he
    have hmono:∀ q,listed.getD q false=true->(listed.setIfInBounds i true).getD q false=true:=fun q hq=>by
     simp only [za,zy] at hq ⊢
     split
     ·split <;> simp_all
     ·exact hq
    by_cases hji:i=j
    ·subst hji
     rw [hxo,zC] at hj
     subst hj
     exact hmono _ (hedge e he)
    ·refine hmono _ (hc j o hj ?_ e he)
     simp only [za,zy,hji,if_false] at hlj ⊢
     exact hlj
   ·rw [hset]
    simpa [sel,List.filterMap_append] using h2
end
end Go.Abs
