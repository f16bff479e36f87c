import Derived.Test.YtnhjpicdijeagaaDoorAbsKds
import Derived.ChangeMaps3
import Derived.Lib.SliceRun
import Derived.Laws.Cover3
namespace Go.Abs
open Go.RowKit
def WF(r:Option Nat):Fence:={ Fence.wide with round:=r }
theorem qnk{r:Option Nat}{n:Nat}{P:Program}{f:FuncId}{args:Array Value}{w:World}{R:Ending->World->Prop}(h:Calls P f args w R):CallsIn (WF r) n P f args w R:=
 (callsIn_wide (n:=n)).2 h
def Does(r:Option Nat)(n:Nat)(P:Program)(o:Oper)(a:Act)(w:World)(Post:Value->World->Prop):Prop:=
 ∀ (next:Act->World->Prop) (Q:Exit->Act->World->Prop),(∀ x w',Post x w'->next (a.put o.dst x) w')->o.wpIn (WF r) n P a w next Q
theorem Does.mono{r:Option Nat}{n:Nat}{P:Program}{o:Oper}{a:Act}{w:World}{Post Post':Value->World->Prop}(h:Does r n P o a w Post)(hp:∀ x w',Post x w'->Post' x w'):Does r n P o a w Post':=
 fun next Q hn=>h next Q fun x w' hx=>hn x w' (hp x w' hx)
theorem qaH{r:Option Nat}{n:Nat}{P:Program}{o:Oper}{a:Act}{w w':World}{Post:Value->World->Prop}{x:Value}(hd:∀ c,o.op≠.defer c)
  (hrun:(execOp a.eval o).run P w=.ok (.value x) w') (hp:Post x w'):Does r n P o a w Post:=by
 intro next Q hn
 refine⟨fun _ _=>trivial,?_⟩
 rw [Oper.semAt_eq _ _ _ hd,hrun]
 exact hn x w' hp
theorem qhY{r:Option Nat}{n:Nat}{P:Program}{o:Oper}{a:Act}{w w':World}{Post:Value->World->Prop}(hd:∀ c,o.op≠.defer c)
  (hrun:(execOp a.eval o).run P w=.ok .skip w') (hp:Post undef w'):Does r n P o a w Post:=by
 intro next Q hn
 refine⟨fun _ _=>trivial,?_⟩
 rw [Oper.semAt_eq _ _ _ hd,hrun]
 exact hn undef w' hp
structure Gl (gs:List (Nat×List Value)) (w0:World) (A:Nat->Prop):Prop where
 at_:∀ p∈gs,p.1<w0.heap.size/\qkD w0 p.1 0 p.2
 out:∀ p∈gs,¬ A p.1
abbrev GW(gs:List (Nat×List Value))(w:World):Prop:=∀ p∈gs,p.1<w.heap.size/\qkD w p.1 0 p.2
theorem GW.gl{gs:List (Nat×List Value)}{w:World}(h:GW gs w):Gl gs w (fun _=>False):=⟨h,fun _ _ h=>h⟩
theorem Gl.now{gs:List (Nat×List Value)}{w0 w:World}{A M0:Nat->Prop}{h:List O}{σ:Nat->Loc}(g:Gl gs w0 A)(R:Rep w0 A M0 w h σ):GW gs w:=fun p hp=>by
 obtain⟨h1,h2⟩:=g.at_ p hp
 exact⟨zM h1 R.fr.size,fun j v hj=>(World.cell?_of_block (w:=w0) (R.fr.block p.1 h1 (g.out p hp))).trans (h2 j v hj)⟩
theorem GW.below{gs:List (Nat×List Value)}{w w':World}(g:GW gs w)(b:Below w.heap.size w w'):GW gs w':=fun p hp=>by
 obtain⟨h1,h2⟩:=g p hp
 exact⟨zM h1 b.size,fun j v hj=>(World.cell?_of_block (w:=w) (b.block p.1 h1)).trans (h2 j v hj)⟩
structure GOk (P:Program) (C:Ctx):Prop where
 fn : ∀ g args h p, C.G g args h = some p → ∃ f c, P.funcs[g]? = some f ∧ (f.name == "runtime.NumGoroutine") = false ∧ f.body = some c
 rd:∀ g args h hm p y,Sub hm h->C.G g args hm=some p->p.h=none->p.r=some y->∀ w0 A M0 w σ,Gl C.gs w0 A->Rep w0 A M0 w h σ->∀ vs,RVs w (mutb M0 h σ) h σ args vs ->
  Calls P g vs.toArray w fun e w'=>∃ x,e=.returned x/\Below w.heap.size w w'/\RV w' (mutb M0 h σ) h σ (p.v y) x
 wr:∀ g args h p u y,C.G g args h=some p->p.h=some u->p.r=some y->∀ w0 A M0 w σ,Gl C.gs w0 A->Rep w0 A M0 w h σ->∀ vs,RVs w (mutb M0 h σ) h σ args vs ->
  Calls P g vs.toArray w fun e w'=>∃ x σ',e=.returned x/\Next w0 A M0 w h σ w' (u y h) σ'/\RV w' (mutb M0 (u y h) σ') (u y h) σ' (p.v y) x
def panV(ty:TypeId):Value:=.iface ty (.agg #[])
structure XOk (P:Program) (C:Ctx):Prop where
 fn : ∀ g args h p, C.X g args h = some p → ∃ f c, P.funcs[g]? = some f ∧ (f.name == "runtime.NumGoroutine") = false ∧ f.body = some c
 x:∀ g args h p u,C.X g args h=some p->p.r=some (.inr u)->∀ w0 A M0 w σ,Gl C.gs w0 A->Rep w0 A M0 w h σ->∀ vs,RVs w (mutb M0 h σ) h σ args vs ->
  Calls P g vs.toArray w fun e w'=>e=.panicked [{ v:=panV p.ty,recovered:=false }]/\∃ σ',Next w0 A M0 w h σ w' p.h σ'
section
variable {P : Program} {C : Ctx} {r : Option Nat} {n : Nat} {w0 : World} {A M0 : Nat -> Prop} {w : World} {h hm : List O} {σ : Nat -> Loc} {t : Nat -> V} {a : Act} {o : Oper} {ρ : Type}
def PostR(M0:Nat->Prop)(w:World)(h:List O)(σ:Nat->Loc)(v:V)(x:Value)(w':World):Prop:=Below w.heap.size w w'/\RV w' (mutb M0 h σ) h σ v x
theorem qhZ{v:V}{x:Value}(hd:∀ c,o.op≠.defer c)(hrun:(execOp a.eval o).run P w=.ok (.value x) w)(hv:RV w (mutb M0 h σ) h σ v x):Does r n P o a w (PostR M0 w h σ v):=
 qaH hd hrun ⟨Below.refl _ _,hv⟩
theorem qvi(v:Value):RV w (mutb M0 h σ) h σ (qAT v) v:=by
 unfold qAT
 split <;> simp only [RV] <;> rfl
theorem qj(hrt:∀ i,RV w (mutb M0 h σ) h σ (t i) (a.tmps.getD i undef))(x:Operand):RV w (mutb M0 h σ) h σ (ev t x) (a.eval x):=by
 cases x with
 | tmp i=>exact hrt i
 | const v=>exact qvi v
 | global g=>simp only [ev,RV]
 | func f=>
  simp only [ev]
  cases hb:Nat.blt f 1000000 with
  | true=>
   simp only [cond_true,RV]
   exact⟨#[],by simp only [cloV,tgtF,fstF,capF,hb,cond_true];rfl,rfl⟩
  | false=>simp only [cond_false,RV]
theorem qgv(hrt:∀ i,RV w (mutb M0 h σ) h σ (t i) (a.tmps.getD i undef))(xs:List Operand):RVs w (mutb M0 h σ) h σ (xs.map (ev t)) (xs.map a.eval):=by
 induction xs with
 | nil=>rfl
 | cons x xs ih=>exact⟨_,_,rfl,qj hrt x,ih⟩
theorem qfW{M:Nat->Prop}{k:IntKind}{m:Int}:RV w M h σ (.int k m) (.int k m):=by simp only [RV]
theorem qeD{M:Nat->Prop}{b:Bool}:RV w M h σ (.bool b) (.bool b):=by simp only [RV]
theorem qnX{op:BinOp}{k k':IntKind}{x y:Int}{ty:TypeId}{K:V->Option ρ}{res:ρ}(hk:qmT op=true\/k=k')(hb:qse op k x y K=some res) :
  ∃ v val,K v=some res/\(binOp op ty (.int k x) (.int k' y)).run P w=.ok val w/\RV w (mutb M0 h σ) h σ v val:=by
 have hdiv:∀ {e:V},(bif (y==0) then none else K e)=some res->y≠0/\K e=some res:=fun {e} hh=>by
  cases hy:(y==0) with
  | true=>rw [hy] at hh;cases hh
  | false=>rw [hy] at hh;exact⟨by simpa using hy,hh⟩
 have hsh:∀ {e:V},(bif decide (y<0) then none else K e)=some res->¬ y<0/\K e=some res:=fun {e} hh=>by
  by_cases hy:y<0
  ·simp [hy] at hh
  ·simp [hy] at hh;exact⟨hy,hh⟩
 have hne:∀ {a b:Sem Value},(if k≠k then a else b)=b:=fun {a b}=>zL (by simp)
 cases op
 case shl=>obtain⟨h1,h2⟩:=hsh hb;exact⟨_,_,h2,by simp only [binOp,Op.shift,h1,if_false];rfl,qfW⟩
 case shr=>obtain⟨h1,h2⟩:=hsh hb;exact⟨_,_,h2,by simp only [binOp,Op.shift,h1,if_false];rfl,qfW⟩
 case quo=>
  obtain⟨h1,h2⟩:=hdiv hb
  obtain rfl:=hk.resolve_left (by simp [qmT])
  exact⟨_,_,h2,by simp only [binOp,hne,Op.intDiv,h1,if_false];rfl,qfW⟩
 case rem=>
  obtain⟨h1,h2⟩:=hdiv hb
  obtain rfl:=hk.resolve_left (by simp [qmT])
  exact⟨_,_,h2,by simp only [binOp,hne,Op.intDiv,h1,if_false];rfl,qfW⟩
 all_goals
  obtain rfl:=hk.resolve_left (by simp [qmT])
  first
   | exact⟨_,_,hb,by simp only [binOp,hne];rfl,qfW⟩
   | exact⟨_,_,hb,by simp only [binOp,hne];rfl,qeD⟩
theorem qws{op:BinOp}{ty:TypeId}{x y:Operand}{k k':IntKind}{m q:Int}:(eqGuard op ty x y (.int k m) (.int k' q)).run P w=.ok () w:=by
 cases op <;> simp [eqGuard]
theorem qnV{op:BinOp}{ty:TypeId}{x y:Operand}{b c:Bool}:(eqGuard op ty x y (.bool b) (.bool c)).run P w=.ok () w:=by
 cases op <;> simp [eqGuard]
theorem qbV(hT:TOk P C.T){ty e:TypeId}{ee:TE}(hs:qek C.T ty=some (e,ee)):P.underlying ty=some (.slice e)/\∃ i z,TeIs P e ee i z:=by
 unfold qek at hs
 split at hs
 ·cases hs
 ·rename_i te hte
  split at hs
  ·rename_i e' hd
   split at hs
   ·rename_i ee' hee
    simp only [zD,zN] at hs
    obtain⟨rfl,rfl⟩:=hs
    obtain⟨i,z,hi⟩:=hT.get hte
    obtain⟨u,h1,h2⟩:=hi.und
    rw [hd] at h2;subst h2
    exact⟨h1,hT.get hee⟩
   ·cases hs
  ·cases hs
theorem qAQ{R:Type}{a b:Option R}{r:R}(h:dem2 a b=some r):a=some r/\b=some r:=by
 unfold dem2 at h
 split at h
 ·rename_i e;exact⟨h,e▸h⟩
 ·cases h
theorem qlR{op:BinOp}{ty:TypeId}{x y:Operand}{a b:Option Addr}{m n c d:Nat}:(eqGuard op ty x y (.slice a m c) (.slice b n d)).run P w=.ok () w:=by
 cases op <;> simp [eqGuard]
theorem run_equalIn_bool(d:Nat){ty:TypeId}(b c:Bool)(hu:P.underlying ty=some .bool):(Op.equalIn (d+1) ty (.bool b) (.bool c)).run P w=.ok (b==c) w:=by
 simp [Op.equalIn,run_underlying hu]
theorem run_equal_bool{ty:TypeId}(b c:Bool)(hu:P.underlying ty=some .bool):(Op.equal ty (.bool b) (.bool c)).run P w=.ok (b==c) w:=run_equalIn_bool 9999 b c hu
theorem quW(hT:TOk P C.T)(R:Rep w0 A M0 w h σ){op:BinOp}{ty:TypeId}{x y:Operand}{vs ws:List V}{p q:Value}(hp:RV w (mutb M0 h σ) h σ (.agg vs) p)(hq:RV w (mutb M0 h σ) h σ (.agg ws) q){K:V->Option ρ}{res:ρ}(hb:qxQ C op ty vs ws K=some res) :
  ∃ v val,K v=some res/\(do eqGuard op ty x y p q;binOp op ty p q:Sem Value).run P w=.ok val w/\RV w (mutb M0 h σ) h σ v val:=by
 unfold qxQ at hb
 split at hb
 ·cases hb
 rename_i te hte
 obtain⟨hk,hb⟩:=qc hb
 split at hb
 ·cases hb
 rename_i s hs
 obtain⟨i,z,hi⟩:=hT.get hte
 obtain⟨k1,k2⟩:=hi.key hk s hs
 split at hb
 ·cases hb
 rename_i a ha
 split at hb
 ·cases hb
 rename_i b hb'
 have da:=qcv R hp ha
 have db:=qcv R hq hb'
 have he:(Op.equal ty p q).run P w=.ok (eqD s a b) w:=(show (Op.equalIn 10000 ty p q).run P w=.ok (eqD s a b) w from by
  have h9:=qng (w:=w) 4 9995 ty s k1 a b p q da db
  rw [show 9995+1+4=10000 from rfl] at h9
  exact h9)
 simp only [RV] at hp hq
 obtain⟨us,rfl,-⟩:=hp
 obtain⟨us',rfl,-⟩:=hq
 have hg:=fun op=>run_eqGuard_agg (P:=P) w op ty x y us us' k2
 split at hb
 ·exact⟨_,_,hb,by rw [Sem.run_bind,hg,Result.andThen_ok];simp only [binOp,Sem.run_bind,he,Result.andThen_ok];rfl,qeD⟩
 ·exact⟨_,_,hb,by rw [Sem.run_bind,hg,Result.andThen_ok];simp only [binOp,Sem.run_bind,he,Result.andThen_ok];rfl,qeD⟩
 ·cases hb
theorem qvu(hT:TOk P C.T)(R:Rep w0 A M0 w h σ){op:BinOp}{ty:TypeId}{x y:Operand}{u v:V}{p q:Value}(hp:RV w (mutb M0 h σ) h σ u p)(hq:RV w (mutb M0 h σ) h σ v q){K:V->Option ρ}{res:ρ}(hb:qic C op ty u v K=some res) :
  ∃ v val,K v=some res/\(do eqGuard op ty x y p q;binOp op ty p q:Sem Value).run P w=.ok val w/\RV w (mutb M0 h σ) h σ v val:=by
 cases u with
 | int k m=>
  cases v with
  | int k' m'=>
   simp only [RV] at hp hq
   subst hp;subst hq
   simp only [qic] at hb
   have hres:∃ v val,K v=some res/\(binOp op ty (.int k m) (.int k' m')).run P w=.ok val w/\RV w (mutb M0 h σ) h σ v val:=by
    cases hs:qmT op with
    | true=>rw [hs] at hb;exact qnX (.inl hs) hb
    | false=>
     rw [hs] at hb
     simp only [cond_false] at hb
     split at hb
     ·exact qnX (.inr ‹_›) hb
     ·cases hb
   obtain⟨v,val,h1,h2,h3⟩:=hres
   exact⟨v,val,h1,by rw [Sem.run_bind,qws,Result.andThen_ok,h2],h3⟩
  | _=>simp [qic] at hb
 | bool b=>
  cases v with
  | bool c=>
   simp only [RV] at hp hq
   subst hp;subst hq
   simp only [qic] at hb
   cases hi:qwq C.T ty with
   | false=>rw [hi] at hb;cases hb
   | true=>
    rw [hi] at hb
    simp only [cond_true] at hb
    have hu:P.underlying ty=some .bool:=by
     unfold qwq at hi
     split at hi
     ·rename_i te hte
      split at hi
      ·rename_i hd
       obtain⟨i,z,hi'⟩:=hT.get hte
       obtain⟨u,h1,h2⟩:=hi'.und
       rw [hd] at h2;subst h2;exact h1
      ·cases hi
     ·cases hi
    cases op <;> simp only [qtv,reduceCtorEq] at hb
    ·exact⟨_,_,hb,by rw [Sem.run_bind,qnV,Result.andThen_ok];simp only [binOp,Sem.run_bind,run_equal_bool b c hu,Result.andThen_ok];rfl,qeD⟩
    ·exact⟨_,_,hb,by rw [Sem.run_bind,qnV,Result.andThen_ok];simp only [binOp,Sem.run_bind,run_equal_bool b c hu,Result.andThen_ok];rfl,qeD⟩
  | _=>simp [qic] at hb
 | sl s xs=>
  cases v with
  | nil=>
   simp only [qic,nilOp] at hb
   split at hb
   ·cases hb
   ·rename_i ee he
    obtain⟨hu,-⟩:=qbV hT he
    simp only [RV] at hp hq
    subst hq
    simp only [RC] at hp
    obtain⟨a,cap,hpv,-,-,hne⟩:=hp
    simp only [zz,and_true] at hpv
    subst hpv
    have hnil:xs.isEmpty=false->a.isNone=false:=fun h=>by
     obtain⟨b,q,rfl,-⟩:=hne (by rintro rfl;cases h)
     rfl
    cases op <;> simp only [reduceCtorEq] at hb
    ·exact⟨_,.bool a.isNone,hb,by rw [Sem.run_bind,qlR,Result.andThen_ok];exact Lib.run_eql_slice_nil w _ _ a _ _ _ _ hu,by simp only [RV];exact⟨a.isNone,by simp,hnil⟩⟩
    ·exact⟨_,.bool (!a.isNone),hb,by rw [Sem.run_bind,qlR,Result.andThen_ok];exact run_neq_slice_nil w _ _ a _ _ hu,by simp only [RV];exact⟨a.isNone,by simp,hnil⟩⟩
  | _=>simp [qic] at hb
 | agg vs=>
  cases v with
  | agg ws=>exact quW hT R hp hq hb
  | _=>simp [qic] at hb
 | _=>simp [qic] at hb
theorem qgU{op:BinOp}{ty:TypeId}{x y:Operand}{p q:Value}{b:Bool}(hg:(eqGuard op ty x y p q).run P w=.ok () w)
  (h1:(binOp .eql ty p q).run P w=.ok (.bool b) w) (h2:(binOp .neq ty p q).run P w=.ok (.bool (!b)) w) {K:V->Option ρ} {res:ρ} (hb:qga op b K=some res) :
  ∃ v val,K v=some res/\(do eqGuard op ty x y p q;binOp op ty p q:Sem Value).run P w=.ok val w/\RV w (mutb M0 h σ) h σ v val:=by
 unfold qga at hb
 split at hb
 ·exact⟨_,_,hb,by rw [Sem.run_bind,hg,Result.andThen_ok,h1],qeD⟩
 ·exact⟨_,_,hb,by rw [Sem.run_bind,hg,Result.andThen_ok,h2],qeD⟩
 ·cases hb
theorem qqO(w:World)(t k e:TypeId)(r:Option Nat)(h:P.underlying t=some (.map k e)):(binOp .neq t (.map r) (.map none)).run P w=.ok (.bool (!r.isNone)) w:=by
 have h1:∀ d,(Op.equalIn (d+1) t (.map r) (.map none)).run P w=.ok r.isNone w:=fun d=>by cases r <;> simp [Op.equalIn,run_underlying h]
 have h2:(Op.equal t (.map r) (.map none)).run P w=.ok r.isNone w:=h1 9999
 simp only [binOp]
 simp [h2]
theorem qqS(w:World)(t k e:TypeId)(r:Option Nat)(h:P.underlying t=some (.map k e)):(binOp .eql t (.map r) (.map none)).run P w=.ok (.bool r.isNone) w:=by
 have h1:∀ d,(Op.equalIn (d+1) t (.map r) (.map none)).run P w=.ok r.isNone w:=fun d=>by cases r <;> simp [Op.equalIn,run_underlying h]
 have h2:(Op.equal t (.map r) (.map none)).run P w=.ok r.isNone w:=h1 9999
 simp only [binOp]
 simp [h2]
theorem qsH(hT:TOk P C.T){op:BinOp}{ty:TypeId}{x y:Operand}{u:V}{p:Value}(hp:RV w (mutb M0 h σ) h σ u p){K:V->Option ρ}{res:ρ}(hb:qmK C op ty u K=some res) :
  ∃ v val,K v=some res/\(do eqGuard op ty x y p (.pointer none);binOp op ty p (.pointer none):Sem Value).run P w=.ok val w/\RV w (mutb M0 h σ) h σ v val:=by
 unfold qmK at hb
 split at hb
 ·cases hb
 rename_i te hte
 split at hb
 case h_2=>cases hb
 rename_i hd
 obtain⟨i,z,hi⟩:=hT.get hte
 obtain⟨_,h1,h2⟩:=hi.und
 rw [hd] at h2
 obtain⟨e,rfl⟩:=h2
 have hpt:P.underlying ty=some (.pointer (P.pointee ty)):=by
  have:P.pointee ty=e:=by simp [Program.pointee,h1]
  rw [this];exact h1
 have hg:∀ (a:Option Addr),(eqGuard op ty x y (.pointer a) (.pointer none)).run P w=.ok () w:=fun a=>by cases op <;> simp [eqGuard]
 have fin:∀ (a:Option Addr),qga op a.isNone K=some res->p=.pointer a->∃ v val,K v=some res/\(do eqGuard op ty x y p (.pointer none);binOp op ty p (.pointer none):Sem Value).run P w=.ok val w/\RV w (mutb M0 h σ) h σ v val:=fun a hb e=>by
  subst e
  exact qgU (hg a) (run_eql_pointer_nil w ty a hpt) (run_neq_pointer_nil w ty a hpt) hb
 split at hb
 ·simp only [RV,Nl.val] at hp
  exact fin none hb hp
 ·obtain⟨hlo,hb⟩:=qc hb
  simp only [RV] at hp
  obtain⟨b,_,hx⟩:=hp
  exact fin (some ⟨b,_,none⟩) hb (hx.low hlo).1
 ·simp only [RV] at hp
  obtain⟨b,q,cs,hx,_⟩:=hp
  exact fin (some ⟨b,q,none⟩) hb hx
 ·cases hb
theorem qsQ(hT:TOk P C.T)(hs:Sub hm h){op:BinOp}{ty:TypeId}{x y:Operand}{u:V}{p:Value}(hp:RV w (mutb M0 h σ) h σ u p){K:V->Option ρ}{res:ρ}(hb:qmO C hm op ty u K=some res) :
  ∃ v val,K v=some res/\(do eqGuard op ty x y p (.map none);binOp op ty p (.map none):Sem Value).run P w=.ok val w/\RV w (mutb M0 h σ) h σ v val:=by
 unfold qmO at hb
 split at hb
 ·cases hb
 rename_i te hte
 split at hb
 case h_2=>cases hb
 rename_i k e ks vs hd
 obtain⟨i,z,hi⟩:=hT.get hte
 obtain⟨_,h1,h2⟩:=hi.und
 rw [hd] at h2
 obtain⟨rfl,-,-⟩:=h2
 have hg:∀ (a:Option Nat),(eqGuard op ty x y (.map a) (.map none)).run P w=.ok () w:=fun a=>by cases op <;> simp [eqGuard]
 have fin:∀ (a:Option Nat),qga op a.isNone K=some res->p=.map a->∃ v val,K v=some res/\(do eqGuard op ty x y p (.map none);binOp op ty p (.map none):Sem Value).run P w=.ok val w/\RV w (mutb M0 h σ) h σ v val:=fun a hb e=>by
  subst e
  exact qgU (hg a) (qqS w ty k _ a h1) (qqO w ty k _ a h1) hb
 split at hb
 ·simp only [RV,Nl.val] at hp
  exact fin none hb hp
 ·split at hb
  case h_2=>cases hb
  rename_i o1 ver i1 off ver' q d eo
  obtain⟨hv,hb⟩:=qc hb
  have eh:=hs.get eo (by simp)
  simp only [RV] at hp
  rw [eh] at hp
  obtain⟨-,-,hx⟩:=hp
  obtain⟨-,c,-,hx⟩:=hx (zB hv)
  exact fin (some c) hb hx
 ·split at hb
  case h_2=>cases hb
  rename_i o' off fz q d eo
  cases hq:q.it with
  | true=>rw [hq] at hb;cases hb
  | false=>
   rw [hq,cond_false] at hb
   have eh:=hs.get eo (by simp)
   simp only [RV] at hp
   obtain⟨b,_,hx⟩:=hp
   rw [eh] at hx
   obtain⟨-,hx⟩:=hx
   rw [hq,cond_false] at hx
   exact fin (some b) hb hx
 ·cases hb
theorem qta(hT:TOk P C.T){op:BinOp}{ty:TypeId}{x:Operand}{u:V}{p:Value}(hp:RV w (mutb M0 h σ) h σ u p){K:V->Option ρ}{res:ρ}(hb:qmV C op ty u K=some res) :
  ∃ v val,K v=some res/\(do eqGuard op ty x (.const .nilIface) p .nilIface;binOp op ty p .nilIface:Sem Value).run P w=.ok val w/\RV w (mutb M0 h σ) h σ v val:=by
 unfold qmV at hb
 split at hb
 ·cases hb
 rename_i te hte
 split at hb
 case h_2=>cases hb
 rename_i hd
 obtain⟨i,z,hi⟩:=hT.get hte
 obtain⟨_,h1,h2⟩:=hi.und
 rw [hd] at h2
 obtain⟨ms,rfl⟩:=h2
 have hpt:P.underlying ty=some (.interface (P.methodsAt ty)):=by
  have:P.methodsAt ty=ms:=by simp [Program.methodsAt,h1]
  rw [this];exact h1
 split at hb
 ·simp only [RV,Nl.val] at hp
  subst hp
  exact qgU (b:=true) (by cases op <;> simp [eqGuard]) (run_eql_nil_nil w ty hpt) (run_neq_nil_nil w ty hpt) hb
 ·simp only [RV] at hp
  obtain⟨v,rfl,_⟩:=hp
  exact qgU (b:=false) (by cases op <;> simp [eqGuard]) (run_eql_held_nil w ty _ v hpt) (run_neq_held_nil w ty _ v hpt) hb
 ·cases hb
theorem qux(hT:TOk P C.T){ty:TypeId}{u:V}{p:Value}(hp:RV w (mutb M0 h σ) h σ u p){K:V->Option ρ}{res:ρ}(hb:qrE C ty u K=some res) :
  ∃ v val,K v=some res/\(Instr.makeInterface ty p).run P w=.ok val w/\RV w (mutb M0 h σ) h σ v val:=by
 unfold qrE at hb
 split at hb
 ·cases hb
 rename_i te hte
 obtain⟨i,z,hi⟩:=hT.get hte
 obtain⟨u',h1,h2⟩:=hi.und
 have fin:K (.ifc ty u)=some res->P.concrete ty=true->∃ v val,K v=some res/\(Instr.makeInterface ty p).run P w=.ok val w/\RV w (mutb M0 h σ) h σ v val:=fun hb hc=>
  ⟨_,_,hb,run_makeInterface w ty p hc,by simp only [RV];exact⟨p,rfl,hp⟩⟩
 split at hb
 ·cases hb
 ·cases hb
 ·rename_i n1 n2
  refine fin hb ?_
  unfold Program.concrete
  rw [h1]
  cases hd:te.d with
  | int k=>rw [hd] at h2;subst h2;rfl
  | bool=>rw [hd] at h2;subst h2;rfl
  | slice e=>rw [hd] at h2;subst h2;rfl
  | map k e ks vs=>rw [hd] at h2;obtain⟨rfl,_⟩:=h2;rfl
  | nmap k e ks kd=>rw [hd] at h2;obtain⟨rfl,_⟩:=h2;rfl
  | array n e=>rw [hd] at h2;subst h2;rfl
  | struct fs=>rw [hd] at h2;obtain⟨gs,rfl,_⟩:=h2;rfl
  | str=>rw [hd] at h2;subst h2;rfl
  | ptr=>rw [hd] at h2;obtain⟨_,rfl⟩:=h2;rfl
  | ifc=>exact absurd hd n1
  | other=>exact absurd hd n2
theorem qvM{op:UnOp}{u:V}{p:Value}(hp:RV w (mutb M0 h σ) h σ u p){K:V->Option ρ}{res:ρ}(hb:unOpK op u K=some res) :
  ∃ v val,K v=some res/\(Op.unary op p).run P w=.ok val w/\RV w (mutb M0 h σ) h σ v val:=by
 cases u with
 | int k m=>
  simp only [RV] at hp;subst hp
  cases op <;> simp only [unOpK,reduceCtorEq] at hb
  ·exact⟨_,_,hb,rfl,qfW⟩
  ·exact⟨_,_,hb,rfl,qfW⟩
 | bool b=>
  simp only [RV] at hp;subst hp
  cases op <;> simp only [unOpK,reduceCtorEq] at hb
  exact⟨_,_,hb,rfl,qeD⟩
 | _=>cases op <;> simp [unOpK] at hb
theorem qwi(hT:TOk P C.T)(R:Rep w0 A M0 w h σ)(hs:Sub hm h){ty:TypeId}{u:V}{p:Value}(hp:RV w (mutb M0 h σ) h σ u p){K:V->Option ρ}{res:ρ}(hb:loadK C hm ty u K=some res) :
  ∃ v val,K v=some res/\(Instr.loadAt ty p).run P w=.ok val w/\RV w (mutb M0 h σ) h σ v val:=by
 unfold loadK at hb
 split at hb
 ·cases hb
 ·rename_i te hte
  split at hb
  ·cases hb
  ·rename_i q hq
   obtain⟨vs,off⟩:=q
   cases hok:qhO te.isAgg te.size off vs.length with
   | false=>rw [hok] at hb;cases hb
   | true=>
    rw [hok] at hb
    simp only [cond_true] at hb
    obtain⟨b,q,cs,rfl,hc,hr,h1⟩:=qiF R hs hp hq
    obtain⟨i,z,hi⟩:=hT.get hte
    refine⟨_,_,hb,?_,qis hr h1 hok⟩
    rw [hr.length] at hok
    simp [Instr.loadAt,Instr.sureAddr,qhA hi hc.g hok]
theorem qpX(hT:TOk P C.T){ty:TypeId}{te:TE}{fs:List (Nat×TypeId)}(ht:tlook C.T ty=some te)(hd:te.d=.struct fs) :
  ∃ gs:Array Field,P.underlying ty=some (.struct gs)/\∀ (f off:Nat) (ft:TypeId),fs[f]? = some (off,ft)->∃ g:Field,gs[f]? = some g/\g.offset=off/\g.type=ft:=by
 obtain⟨i,z,hi⟩:=hT.get ht
 obtain⟨u,h1,h2⟩:=hi.und
 rw [hd] at h2
 obtain⟨gs,rfl,h3,_⟩:=h2
 refine⟨gs,h1,fun f off ft hf=>?_⟩
 rw [<- h3,zAb] at hf
 cases hg:gs.toList[f]? with
 | none=>rw [hg] at hf;cases hf
 | some g=>
  rw [hg] at hf
  simp only [Option.map_some,zD,zN] at hf
  exact⟨g,by simpa using hg,hf.1,hf.2⟩
theorem qkF{M:Nat->Prop}:(s:Sh) -> {x:s.den} -> {cs:List Value}->RC w M s x cs -> {off size:Nat} -> {y:Σ s':Sh,s'.den}->subAt s x off size=some y ->
  ∃ ds,RC w M y.1 y.2 ds/\(∀ j v,ds[j]? = some v->cs[off+j]? = some v)
 | .int k,x,cs,hr,off,size,y,hs=>by
  simp only [subAt] at hs
  cases hc:(Nat.beq off 0&&Nat.beq size 1) with
  | false=>rw [hc] at hs;cases hs
  | true=>
   rw [hc] at hs;simp only [cond_true,zD] at hs;subst hs
   simp only [zA] at hc
   have:=zB hc.1
   subst this
   exact⟨cs,hr,fun j v hj=>by rwa [Nat.zero_add]⟩
 | .bool,x,cs,hr,off,size,y,hs=>by
  simp only [subAt] at hs
  cases hc:(Nat.beq off 0&&Nat.beq size 1) with
  | false=>rw [hc] at hs;cases hs
  | true=>
   rw [hc] at hs;simp only [cond_true,zD] at hs;subst hs
   simp only [zA] at hc
   have:=zB hc.1
   subst this
   exact⟨cs,hr,fun j v hj=>by rwa [Nat.zero_add]⟩
 | .sl s,x,cs,hr,off,size,y,hs=>by
  simp only [subAt] at hs
  cases hc:(Nat.beq off 0&&Nat.beq size 1) with
  | false=>rw [hc] at hs;cases hs
  | true=>
   rw [hc] at hs;simp only [cond_true,zD] at hs;subst hs
   simp only [zA] at hc
   have:=zB hc.1
   subst this
   exact⟨cs,hr,fun j v hj=>by rwa [Nat.zero_add]⟩
 | .unit,x,cs,hr,off,size,y,hs=>by simp [subAt] at hs
 | .pair a b,x,cs,hr,off,size,y,hs=>by
  simp only [subAt] at hs
  cases hc:(Nat.beq off 0&&Nat.beq size (a.n+b.n)) with
  | true=>
   rw [hc] at hs;simp only [cond_true,zD] at hs;subst hs
   simp only [zA] at hc
   have:=zB hc.1
   subst this
   exact⟨cs,hr,fun j v hj=>by rwa [Nat.zero_add]⟩
  | false=>
   rw [hc] at hs;simp only [cond_false] at hs
   simp only [RC] at hr
   obtain⟨c,d,rfl,h1,h2⟩:=hr
   have hl:=h1.length
   cases hb:Nat.blt off a.n with
   | true=>
    rw [hb] at hs;simp only [cond_true] at hs
    obtain⟨ds,h3,h4⟩:=qkF a h1 hs
    refine⟨ds,h3,fun j v hj=>?_⟩
    have:=h4 j v hj
    rw [zl (zS.1 this).1];exact this
   | false=>
    rw [hb] at hs;simp only [cond_false] at hs
    obtain⟨ds,h3,h4⟩:=qkF b h2 hs
    have hge:a.n<=off:=by
     rcases zAO off a.n with hh | hh
     ·have:=zAn (show off+1<=a.n by omega)
      rw [Nat.blt,this] at hb;cases hb
     ·exact hh
    refine⟨ds,h3,fun j v hj=>?_⟩
    have:=h4 j v hj
    rw [zu (by omega),hl,show off+j - a.n=off - a.n+j by omega];exact this
end
end Go.Abs
namespace Go.Abs
open Go.RowKit
theorem qwb{α:Type}(z:α)(xs:List α)(i:Nat)(h:i<xs.length):xs[i]? = some (nth z xs i):=by simp [nth,List.getD,h]
section
variable {P : Program} {C : Ctx} {r : Option Nat} {n : Nat} {w0 : World} {A M0 : Nat -> Prop} {w : World} {h hm : List O} {σ : Nat -> Loc} {t : Nat -> V} {a : Act} {o : Oper} {ρ : Type}
theorem qxb{M:Nat->Prop}{v:V}{x:Value}(hv:RV w M h σ v x)(hs:v.okStore=true):RVs w M h σ v.cells x.cells.toList/\∀ c∈x.cells.toList,c.oneCell'=true:=by
 have single:∀ {u:V} {y:Value},RV w M h σ u y->u.cells = [u]->y.oneCell'=true->RVs w M h σ u.cells y.cells.toList/\∀ c∈y.cells.toList,c.oneCell'=true:=fun {u y} hu hc hy=>by
  have:y.cells = #[y]:=by cases y <;> first | rfl | (simp [Value.oneCell'] at hy)
  rw [hc,this]
  exact⟨⟨y,[],rfl,hu,rfl⟩,fun c hc=>by simp at hc;subst hc;exact hy⟩
 cases v with
 | bad=>cases hs
 | undef=>cases hs
 | tup vs=>cases hs
 | agg vs=>
  simp only [RV] at hv
  obtain⟨cs,rfl,h1,h2⟩:=hv
  exact⟨h2,h1⟩
 | int k m=>have hv':=hv;simp only [RV] at hv;subst hv;exact single hv' rfl rfl
 | bool b=>have hv':=hv;simp only [RV] at hv;subst hv;exact single hv' rfl rfl
 | nil=>have hv':=hv;simp only [RV] at hv;subst hv;exact single hv' rfl rfl
 | nl k=>have hv':=hv;simp only [RV] at hv;subst hv;exact single hv' rfl (by cases k <;> rfl)
 | ifc ty u=>have hv':=hv;simp only [RV] at hv;obtain⟨_,rfl,_⟩:=hv;exact single hv' rfl rfl
 | nlt neg e=>have hv':=hv;simp only [RV] at hv;obtain⟨_,rfl,_⟩:=hv;exact single hv' rfl rfl
 | sl s xs=>have hv':=hv;simp only [RV] at hv;exact single hv' rfl (RC.one hv x (by simp))
 | slc o ver=>have hv':=hv;simp only [RV] at hv;obtain⟨_,_,_,_,_,_,_,h1,_⟩:=hv;exact single hv' rfl h1
 | ptr o off=>have hv':=hv;simp only [RV] at hv;obtain⟨_,_,hx⟩:=hv;exact single hv' rfl hx.one.2
 | rptr o ver i off=>have hv':=hv;simp only [RV] at hv;exact single hv' rfl hv.one
 | tl o ver i=>have hv':=hv;simp only [RV] at hv;exact single hv' rfl hv.one
 | fptr s y=>have hv':=hv;simp only [RV] at hv;obtain⟨_,_,_,rfl,_⟩:=hv;exact single hv' rfl rfl
 | yld l=>have hv':=hv;simp only [RV] at hv;exact single hv' rfl (by rw [hv];rfl)
 | pptr s y=>have hv':=hv;simp only [RV] at hv;obtain⟨_,_,_,_,_,rfl,_⟩:=hv;exact single hv' rfl rfl
 | clo f cs=>have hv':=hv;simp only [RV] at hv;obtain⟨_,rfl,_⟩:=hv;exact single hv' rfl rfl
theorem qhU(hT:TOk P C.T){ty:TypeId}{te:TE}{fs:List (Nat×TypeId)}(ht:tlook C.T ty=some te)(hd:te.d=.struct fs) :
  ∃ gs:Array Field,P.underlying ty=some (.struct gs)/\∀ (f off size:Nat),qiD C.T fs f=some (off,size)->∃ g:Field,gs[f]? = some g/\g.offset=off/\∀ w',(sizeOf g.type).run P w'=.ok size w':=by
 obtain⟨gs,h1,h2⟩:=qpX hT ht hd
 refine⟨gs,h1,fun f off size hf=>?_⟩
 unfold qiD at hf
 split at hf
 ·cases hf
 ·rename_i off' ft hfs
  split at hf
  ·cases hf
  ·rename_i fe hfe
   simp only [zD,zN] at hf
   obtain⟨rfl,rfl⟩:=hf
   obtain⟨g,h3,h4,h5⟩:=h2 f off' ft hfs
   obtain⟨i,z,hi⟩:=hT.get hfe
   exact⟨g,h3,h4,fun w'=>by rw [h5];exact hi.sizeOf w'⟩
theorem qrs(hs:Sub hm h){o' ver i q:Nat}{p:Value}(hp:RV w (mutb M0 h σ) h σ (.rptr o' ver i q) p)(hok:qxe hm o' ver=true) :
  ∃ b s,(σ o').a=some b/\p=.pointer (some ⟨b,i*Sh.n s+q,none⟩)/\∀ off,RV w (mutb M0 h σ) h σ (.rptr o' ver i (q+off)) (.pointer (some ⟨b,i*Sh.n s+q+off,none⟩)):=by
 unfold qxe at hok
 split at hok
 ·rename_i fz ver' e s xs eo
  simp only [RV] at hp
  have eh:=hs.get eo (by simp)
  rw [eh] at hp
  obtain⟨hl,h1,hx⟩:=hp
  obtain⟨b,ha,hi,rfl⟩:=hx (zB hok)
  exact⟨b,s,ha,rfl,fun off=>by simp only [RV];rw [eh];exact⟨hl,rfl,fun _=>⟨b,ha,hi,by rw [zAF]⟩⟩⟩
 ·cases hok
theorem qrG(hs:Sub hm h){o' ver i q:Nat}{p:Value}(hp:RV w (mutb M0 h σ) h σ (.rptr o' ver i q) p)(hok:qrH hm o' ver q=true) :
  ∃ b k,(σ o').a=some b/\p=.pointer (some ⟨b,k+q,none⟩)/\∀ off,qrH hm o' ver (q+off)=true->RV w (mutb M0 h σ) h σ (.rptr o' ver i (q+off)) (.pointer (some ⟨b,k+q+off,none⟩)):=by
 unfold qrH at hok ⊢
 split at hok
 ·rename_i ver' e t hl d eo
  rw [zA] at hok
  simp only [RV] at hp
  have eh:=hs.get eo (by simp)
  rw [eh] at hp
  obtain⟨h0,hl,h1,hx⟩:=hp
  have hlow:q<1000000:=zH hok.2
  obtain⟨_,b,ha,hi,rfl⟩:=(hx (zB hok.1)).resolve_left (fun q=>by omega)
  refine⟨b,(σ o').off+i*t.n,ha,rfl,fun off ho=>?_⟩
  simp only [zA] at ho
  have hlow2:q+off<1000000:=zH ho.2
  simp only [RV];rw [eh]
  exact⟨rfl,hl,rfl,fun _=>.inr ⟨by omega,b,ha,hi,by rw [zAF ((σ o').off+i*t.n)]⟩⟩
 ·cases hok
theorem qot(hT:TOk P C.T)(hs:Sub hm h){ty:TypeId}{u:V}{p:Value}{f:Nat}(hp:RV w (mutb M0 h σ) h σ u p){K:V->Option ρ}{res:ρ}(hb:qfP C hm ty u f K=some res) :
  ∃ v val,K v=some res/\(Instr.fieldAt ty p f).run P w=.ok val w/\RV w (mutb M0 h σ) h σ v val:=by
 unfold qfP at hb
 split at hb
 ·cases hb
 ·rename_i te hte
  split at hb
  ·rename_i fs hd
   obtain⟨gs,hu,hf⟩:=qhU hT hte hd
   split at hb
   ·cases hb
   ·rename_i off size hfp
    obtain⟨g,hg,hoff,hsize⟩:=hf f off size hfp
    obtain⟨hle,hb⟩:=qc hb
    have hle:=zH hle
    have run:∀ (b q:Nat),(Instr.fieldAt ty (.pointer (some ⟨b,q,none⟩)) f).run P w=.ok (.pointer (some ⟨b,q+off,none⟩)) w:=fun b q=>by
     have h0:¬ size=0:=by omega
     simp [Instr.fieldAt,run_underlying hu,hg,Instr.sureAddr,fieldPlace,hsize,h0,hoff,addr_add]
    clear hd hfp hf
    cases u with
    | ptr o' q=>
     simp only at hb
     obtain⟨hlo,hb⟩:=qc hb
     simp only [RV] at hp
     obtain⟨b,ha,hx⟩:=hp
     obtain⟨rfl,e⟩:=hx.low hlo
     exact⟨_,_,hb,run b q,by simp only [RV];exact⟨b,ha,e _⟩⟩
    | rptr o' ver i q=>
     simp only at hb
     obtain⟨hok,hb⟩:=qc hb
     rw [zx,zA] at hok
     rcases hok with hok | ⟨hok,hok2⟩
     ·obtain⟨b,s,ha,rfl,hr⟩:=qrs hs hp hok
      exact⟨_,_,hb,run b _,hr off⟩
     ·obtain⟨b,k,ha,rfl,hr⟩:=qrG hs hp hok
      exact⟨_,_,hb,run b _,hr off hok2⟩
    | fptr s x=>
     simp only at hb
     split at hb
     ·rename_i y hy
      simp only [RV] at hp
      obtain⟨b,q,cs,rfl,hbl,hm,hc,hr⟩:=hp
      obtain⟨ds,h1,h2⟩:=qkF s hr hy
      exact⟨_,_,hb,run b q,by simp only [RV];exact⟨b,q+off,ds,rfl,hbl,hm,fun j v hj=>by have:=hc _ v (h2 j v hj);rwa [<- zAF] at this,h1⟩⟩
     ·cases hb
    | _=>simp at hb
  ·cases hb
theorem quQ(hT:TOk P C.T){ty:TypeId}{u:V}{p:Value}{f:Nat}(hp:RV w (mutb M0 h σ) h σ u p){K:V->Option ρ}{res:ρ}(hb:qrO C ty u f K=some res) :
  ∃ v val,K v=some res/\(Instr.field ty p f).run P w=.ok val w/\RV w (mutb M0 h σ) h σ v val:=by
 unfold qrO at hb
 split at hb
 ·cases hb
 ·rename_i te hte
  split at hb
  ·rename_i fs hd
   obtain⟨gs,hu,hf⟩:=qpX hT hte hd
   split at hb
   ·cases hb
   ·rename_i off ft hfs
    obtain⟨g,hg,hoff,hty⟩:=hf f off ft hfs
    split at hb
    ·cases hb
    ·rename_i fe hfe
     obtain⟨i,z,hi⟩:=hT.get hfe
     clear hd hf hfs
     cases u with
     | agg vs=>
      simp only at hb
      obtain⟨hok,hb⟩:=qc hb
      simp only [RV] at hp
      obtain⟨cs,rfl,h1,hr⟩:=hp
      refine⟨_,_,hb,?_,qis hr h1 hok⟩
      rw [hr.length] at hok
      unfold qhO at hok
      simp only [zA,zx] at hok
      obtain⟨hle,h2⟩:=hok
      have hle:=zH hle
      simp only [Instr.field,Sem.run_bind,run_underlying hu,Result.andThen_ok,hg,asAgg,Sem.run_pure,part,hty,hi.isAgg,hoff]
      cases ha:fe.isAgg with
      | true=>
       simp only [if_true,Sem.run_bind,hi.sizeOf,Result.andThen_ok,Sem.run_pure,cond_true]
       congr 2
       apply Array.ext'
       simp [zBA,zBY]
      | false=>
       rw [ha] at h2
       have h2:fe.size=1:=by rcases h2 with h2 | h2;cases h2;exact zB h2
       have hlt:off<cs.size:=by simp at hle;omega
       simp [hlt,List.getD]
     | _=>simp at hb
  ·cases hb
theorem qwk(_R:Rep w0 A M0 w h σ)(hs:Sub hm h){u:V}{p:Value}{m:Nat}(hp:RV w (mutb M0 h σ) h σ u p)(hb:lenOf hm u=some m):∃ a c,p=.slice a m c:=by
 cases u with
 | nil=>simp only [lenOf,zD] at hb;subst hb;simp only [RV] at hp;exact⟨_,_,hp⟩
 | sl s xs=>
  simp only [lenOf,zD] at hb;subst hb
  simp only [RV,RC] at hp
  obtain⟨a,c,hv,_⟩:=hp
  simp at hv
  exact⟨a,c,hv⟩
 | slc o' ver=>
  simp only [lenOf] at hb
  split at hb
  ·rename_i fz ver' e s xs eo
   obtain⟨hv,hb⟩:=qc hb
   simp only [zD] at hb
   subst hb
   simp only [RV] at hp
   obtain⟨fz1,ver1,e1,s1,xs1,eo1,hl,h1,hx⟩:=hp
   have eh:=hs.get eo (by simp)
   rw [eh] at eo1
   cases eo1
   exact⟨_,_,hx (zB hv)⟩
  ·cases hb
 | tl o' ver i=>
  simp only [lenOf] at hb
  split at hb
  ·rename_i fz ver' e s xs eo
   obtain⟨hv,hb⟩:=qc hb
   simp only [zD] at hb
   subst hb
   simp only [RV] at hp
   have eh:=hs.get eo (by simp)
   rw [eh] at hp
   obtain⟨hl,h1,hx⟩:=hp
   obtain⟨_,ad,he,_⟩:=hx (zB hv)
   exact⟨_,_,he⟩
  ·cases hb
 | rptr o' ver i off=>
  simp only [lenOf] at hb
  split at hb
  ·rename_i ver' e t hl d eo
   obtain⟨hv,hb⟩:=qc hb
   simp only [zD] at hb
   subst hb
   rw [zA] at hv
   have h2:=zB hv.1
   simp only [RV] at hp
   have eh:=hs.get eo (by simp)
   rw [eh] at hp
   obtain⟨_,_,_,hx⟩:=hp
   obtain⟨_,he⟩:=(hx (zB hv.2)).resolve_right (fun q=>q.1 h2)
   exact⟨_,_,he⟩
  ·cases hb
 | _=>simp [lenOf] at hb
theorem qyt(hT:TOk P C.T)(R:Rep w0 A M0 w h σ)(hs:Sub hm h){ty:TypeId}{u:V}{p:Value}{tys:Array TypeId}{rt:TypeId}(ht:tys[0]? = some ty)(hp:RV w (mutb M0 h σ) h σ u p){K:V->Option ρ}{res:ρ}{rest:List Value}(hb:lenK C hm ty u K=some res) :
  ∃ v val,K v=some res/\(Builtin.len_ tys rt (p :: rest).toArray).run P w=.ok val w/\RV w (mutb M0 h σ) h σ v val:=by
 unfold lenK at hb
 split at hb
 ·cases hb
 ·rename_i te hte
  obtain⟨i,z,hi⟩:=hT.get hte
  obtain⟨un,hu,hd⟩:=hi.und
  split at hb
  ·rename_i e he
   rw [he] at hd
   simp only at hd
   subst hd
   split at hb
   ·rename_i m hm'
    obtain⟨a,c,rfl⟩:=qwk R hs hp hm'
    exact⟨_,_,hb,by simp [Builtin.len_,ht,run_underlying hu,goInt],qfW⟩
   ·cases hb
  ·rename_i m e he
   rw [he] at hd
   simp only at hd
   subst hd
   exact⟨_,_,hb,by simp [Builtin.len_,ht,run_underlying hu,goInt],qfW⟩
  ·cases hb
theorem qmU(hT:TOk P C.T)(R:Rep w0 A M0 w h σ)(hs:Sub hm h){ty:TypeId}{u v:V}{p q:Value}(hp:RV w (mutb M0 h σ) h σ u p)(hq:RV w (mutb M0 h σ) h σ v q){K:V->Option ρ}{res:ρ}
  (hb:qeI C hm ty u v K=some res) :
  ∃ v val,K v=some res/\(Instr.indexAt ty p q).run P w=.ok val w/\RV w (mutb M0 h σ) h σ v val:=by
 unfold qeI at hb
 split at hb
 ·cases hb
 ·rename_i e ee he
  obtain⟨hu,i,z,hi⟩:=qbV hT he
  cases v with
  | int k j=>
   simp only at hb
   simp only [RV] at hq
   subst hq
   have run:∀ (b o' len cap:Nat),0<=j->j<len->(Instr.indexAt ty (.slice (some ⟨b,o',none⟩) len cap) (.int k j)).run P w=.ok (.pointer (some ⟨b,o'+j.toNat*ee.size,none⟩)) w:=fun b o' len cap h1 h2=>by
    have h12:0<=j/\j<len:=⟨h1,h2⟩
    simp [Instr.indexAt,asIntOf,run_underlying hu,h12,hi.sizeOf,addr_add]
   cases u with
   | sl s xs=>
    simp only at hb
    obtain⟨hn,hb⟩:=qc hb
    obtain⟨hj,hb⟩:=qc hb
    simp only [zA,zQ] at hn hj
    have hn1:=zB hn.1
    simp only [RV,RC] at hp
    obtain⟨aa,c,hv,_,_,hx⟩:=hp
    simp at hv
    subst hv
    have hlt:j.toNat<xs.length:=by omega
    obtain⟨b,o',rfl,hbl,hm',hr⟩:=hx (by intro hh;subst hh;simp at hlt)
    obtain⟨cs,hc,hR⟩:=hr _ _ (qwb s.zero xs _ hlt)
    rw [hn1] at hc
    exact⟨_,_,hb,run b o' _ c hj.1 hj.2,by simp only [RV];exact⟨b,_,cs,rfl,hbl,hm',hc,hR⟩⟩
   | slc o' ver=>
    simp only at hb
    split at hb
    ·rename_i fz ver' e' s xs eo
     obtain⟨hn,hb⟩:=qc hb
     obtain⟨hj,hb⟩:=qc hb
     simp only [zA,zQ] at hn hj
     have hn1:=zB hn.1.1
     have hvv:=zB hn.2
     simp only [RV] at hp
     obtain⟨fz1,ver1,e1,s1,xs1,eo1,hl,h1,hx⟩:=hp
     have eh:=hs.get eo (by simp)
     rw [eh] at eo1
     cases eo1
     rw [hx hvv]
     have hlt:j.toNat<xs.length:=by omega
     have ro:=R.obj o'
     rw [eh] at ro
     cases ha:(σ o').a with
     | none=>
      exfalso
      cases fz with
      | true=>
       obtain⟨_,r1,_⟩:=ro
       simp only [RC] at r1
       obtain⟨aa,c,hv,_,_,hx'⟩:=r1
       obtain⟨b,q,rfl,_⟩:=hx' (by intro hh;subst hh;simp at hlt)
       simp [rowV,Loc.addr,ha] at hv
      | false=>
       obtain⟨_,cs,r1,_⟩:=ro
       rcases r1.2 with⟨_,h0⟩ | ⟨g,cap,cur,hv,_⟩
       ·omega
       ·simp [rowV,Loc.addr,ha] at hv
     | some b=>
      have e1:(σ o').addr=some ⟨b,0,none⟩:=by simp [Loc.addr,ha]
      rw [e1]
      refine⟨_,_,hb,run b 0 _ _ hj.1 hj.2,?_⟩
      simp only [RV]
      rw [eh]
      exact⟨hl,rfl,fun _=>⟨b,ha,hlt,by rw [hn1];simp⟩⟩
    ·cases hb
   | tl o' ver i0=>
    simp only at hb
    split at hb
    ·rename_i fz ver' e' s xs eo
     obtain⟨hn,hb⟩:=qc hb
     obtain⟨hj,hb⟩:=qc hb
     simp only [zA,zQ] at hn hj
     have hn1:=zB hn.1.1
     have hvv:=zB hn.2
     simp only [RV] at hp
     have eh:=hs.get eo (by simp)
     rw [eh] at hp
     obtain⟨hl,h1,hx⟩:=hp
     obtain⟨hle,ad,rfl,had⟩:=hx hvv
     have hlt:i0+j.toNat<xs.length:=by omega
     obtain⟨b,ha,rfl⟩:=had (by omega)
     refine⟨_,_,hb,run b _ _ _ hj.1 hj.2,?_⟩
     simp only [RV]
     rw [eh]
     exact⟨hl,rfl,fun _=>⟨b,ha,hlt,by rw [hn1,zBd];rfl⟩⟩
    ·cases hb
   | rptr o' ver i0 off0=>
    simp only at hb
    split at hb
    ·rename_i ver' e' t hl0 d eo
     obtain⟨hn,hb⟩:=qc hb
     obtain⟨hj,hb⟩:=qc hb
     simp only [zA,zQ] at hn hj
     have hn1:=zB hn.1
     have hvv:=zB hn.2.2.1
     have h2:=zB hn.2.2.2
     simp only [RV] at hp
     have eh:=hs.get eo (by simp)
     rw [eh] at hp
     obtain⟨_,hl,h1,hx⟩:=hp
     obtain⟨_,rfl⟩:=(hx hvv).resolve_right (fun q=>q.1 h2)
     have ro:=R.obj o'
     rw [eh] at ro
     obtain⟨_,cs,r1,r2,_⟩:=ro
     have hlt:j.toNat<d.length:=by omega
     obtain⟨b,ha⟩:=r1.one_ (by omega)
     have e1:(σ o').adr=some ⟨b,(σ o').off,none⟩:=by simp [Loc.adr,ha]
     rw [e1]
     refine⟨_,_,hb,run b _ _ _ hj.1 hj.2,?_⟩
     simp only [RV]
     rw [eh]
     exact⟨rfl,hl,rfl,fun _=>.inr ⟨by omega,b,ha,hlt,by rw [hn1];rfl⟩⟩
    ·cases hb
   | _=>simp at hb
  | _=>simp at hb
theorem qgC(hT:TOk P C.T){ty e:TypeId}{n:Nat}{ee:TE}(hs:qjK C.T ty=some (n,e,ee)):P.underlying ty=some (.array n e)/\∃ i z,TeIs P e ee i z:=by
 unfold qjK at hs
 split at hs
 ·cases hs
 ·rename_i te hte
  split at hs
  ·rename_i n' e' hd
   split at hs
   ·rename_i ee' hee
    simp only [zD,zN] at hs
    obtain⟨rfl,rfl,rfl⟩:=hs
    obtain⟨i,z,hi⟩:=hT.get hte
    obtain⟨u,h1,h2⟩:=hi.und
    rw [hd] at h2;simp only at h2;subst h2
    exact⟨h1,hT.get hee⟩
   ·cases hs
  ·cases hs
theorem qkr{o a size:Nat}{i:Int}{K:V->Option ρ}{res:ρ}:(m j:Nat)->qhc o a size i K m j=some res->∃ k:Nat,i=(k:Int)/\k<m+j/\K (.ptr o (a+k*size))=some res
 | 0,_,hb=>by simp [qhc] at hb
 | m+1,j,hb=>by
  simp only [qhc] at hb
  cases hi:(i==(j:Int)) with
  | true=>
   rw [hi] at hb
   exact⟨j,by simpa using hi,by omega,hb⟩
  | false=>
   rw [hi] at hb
   obtain⟨k,h1,h2,h3⟩:=qkr m (j+1) hb
   exact⟨k,h1,by omega,h3⟩
theorem qor(hT:TOk P C.T)(R:Rep w0 A M0 w h σ)(hs:Sub hm h){ty:TypeId}{u v:V}{p q:Value}(hp:RV w (mutb M0 h σ) h σ u p)(hq:RV w (mutb M0 h σ) h σ v q){K:V->Option ρ}{res:ρ}
  (hb:qfO C hm ty u v K=some res) :
  ∃ v val,K v=some res/\(Instr.indexAt ty p q).run P w=.ok val w/\RV w (mutb M0 h σ) h σ v val:=by
 unfold qfO at hb
 split at hb
 ·rename_i n e ee he
  obtain⟨hu,i,z,hi⟩:=qgC hT he
  cases v with
  | int k j=>
   simp only at hb
   simp only [RV] at hq
   subst hq
   cases u with
   | ptr o' a=>
    simp only at hb
    obtain⟨hn,hb⟩:=qc hb
    rw [zA] at hn
    obtain⟨hlo,hn⟩:=hn
    simp only [RV] at hp
    obtain⟨b,h2,hx⟩:=hp
    obtain⟨rfl,h1⟩:=hx.low hlo
    obtain⟨m,rfl,hm,hb⟩:=qkr n 0 hb
    have h12:m<n:=by omega
    refine⟨_,_,hb,by simp [Instr.indexAt,asIntOf,run_underlying hu,Instr.sureAddr,h12,hi.sizeOf,addr_add];rfl,?_⟩
    simp only [RV]
    exact⟨b,h2,h1 _⟩
   | _=>cases hb
  | _=>cases hb
 ·exact qmU hT R hs hp hq hb
end
end Go.Abs
namespace Go.Abs
open Go.RowKit
section
variable {P : Program} {C : Ctx} {r : Option Nat} {n : Nat} {w0 : World} {A M0 : Nat -> Prop} {w : World} {h hm : List O} {σ : Nat -> Loc} {t : Nat -> V} {a : Act} {o : Oper} {ρ : Type}
theorem qvT{ty:TypeId}{te:TE}{i:TypeInfo}{z:Value}(hi:TeIs P ty te i z){cs:Array Value}{off:Nat}(hok:qhO te.isAgg te.size off cs.size=true) :
  (part ty cs off).run P w=.ok (bif te.isAgg then .agg ((cs.toList.drop off).take te.size).toArray else cs.toList.getD off undef) w:=by
 unfold qhO at hok
 simp only [zA,zx] at hok
 obtain⟨hle,h2⟩:=hok
 have hle:=zH hle
 simp only [Sem.run_bind,part,hi.isAgg,Result.andThen_ok]
 cases ha:te.isAgg with
 | true=>
  simp only [if_true,Sem.run_bind,hi.sizeOf,Result.andThen_ok,Sem.run_pure,cond_true]
  congr 2
  apply Array.ext'
  simp [zBA,zBY]
 | false=>
  rw [ha] at h2
  have h2:te.size=1:=by rcases h2 with h2 | h2;cases h2;exact zB h2
  have hlt:off<cs.size:=by omega
  simp [hlt,List.getD]
theorem qks{M:Nat->Prop}{size:Nat}{agg:Bool}{vs:List V}{cs:List Value}{i:Int}{K:V->Option ρ}{res:ρ}(hr:RVs w M h σ vs cs)(h1:∀ c∈cs,c.oneCell'=true)(hok:agg=true\/size=1) :
  (m j:Nat)->(m+j)*size<=vs.length->qhd size agg vs i K m j=some res ->
  ∃ v,K v=some res/\(j:Int)<=i/\i<(m+j:Nat)/\RV w M h σ v (bif agg then .agg ((cs.drop (i.toNat*size)).take size).toArray else cs.getD (i.toNat*size) undef)/\qhO agg size (i.toNat*size) vs.length=true
 | 0,j,_,hb=>by simp [qhd] at hb
 | m+1,j,hl,hb=>by
  simp only [qhd] at hb
  cases hi:(i==(j:Int)) with
  | true=>
   rw [hi] at hb
   simp only [cond_true] at hb
   have hi:i=j:=by simpa using hi
   have e:i.toNat=j:=by omega
   have hle:j*size+size<=vs.length:=by
    have:(j+1)*size<=(m+1+j)*size:=zy _ (by omega)
    rw [zAM] at this;omega
   have hokk:qhO agg size (j*size) vs.length=true:=by
    unfold qhO
    simp only [zA,zx]
    exact⟨zAn hle,hok.imp id (fun e=>by rw [e];rfl)⟩
   rw [e]
   exact⟨_,hb,by omega,by omega,qis hr h1 hokk,hokk⟩
  | false=>
   rw [hi] at hb
   simp only [cond_false] at hb
   obtain⟨v,h1,h2,h3,h4⟩:=qks hr h1 hok m (j+1) (by rw [show m+(j+1)=m+1+j by omega];exact hl) hb
   exact⟨v,h1,by omega,by omega,h4⟩
theorem quH(hT:TOk P C.T){ty:TypeId}{u v:V}{p q:Value}(hp:RV w (mutb M0 h σ) h σ u p)(hq:RV w (mutb M0 h σ) h σ v q){K:V->Option ρ}{res:ρ}(hb:qrI C ty u v K=some res) :
  ∃ v val,K v=some res/\(Instr.index ty p q).run P w=.ok val w/\RV w (mutb M0 h σ) h σ v val:=by
 unfold qrI at hb
 split at hb
 ·cases hb
 ·rename_i te hte
  split at hb
  ·rename_i m e hd
   obtain⟨i,z,hi⟩:=hT.get hte
   obtain⟨un,hu,hdd⟩:=hi.und
   rw [hd] at hdd
   simp only at hdd
   subst hdd
   split at hb
   ·cases hb
   ·rename_i ee hee
    obtain⟨ie,ze,hie⟩:=hT.get hee
    cases v with
    | int k j=>
     simp only at hb
     simp only [RV] at hq
     subst hq
     cases u with
     | agg vs=>
      simp only at hb
      obtain⟨hok,hb⟩:=qc hb
      simp only [zA,zx] at hok
      have hl:=zB hok.1
      simp only [RV] at hp
      obtain⟨cs,rfl,h1,hr⟩:=hp
      obtain⟨v,h2,h3,h4,h5,h6⟩:=qks hr h1 (hok.2.imp id zB) m 0 (by rw [Nat.add_zero];omega) hb
      refine⟨v,_,h2,?_,h5⟩
      have hj:0<=j/\j<(m:Int):=⟨by simpa using h3,by simpa using h4⟩
      rw [hr.length] at h6
      simp only [Instr.index,Sem.run_bind,asIntOf,Sem.run_pure,Result.andThen_ok,run_underlying hu,hj,and_self,if_true,hie.sizeOf]
      exact qvT hie h6
     | _=>simp at hb
    | _=>simp at hb
  ·cases hb
theorem qpM(hT:TOk P C.T){ty:TypeId}{s:ByteArray}{v:V}{q:Value}(hq:RV w (mutb M0 h σ) h σ v q){K:V->Option ρ}{res:ρ}(hb:qjA C ty s v K=some res) :
  ∃ v val,K v=some res/\(Instr.index ty (.string s) q).run P w=.ok val w/\RV w (mutb M0 h σ) h σ v val:=by
 unfold qjA at hb;cases hb
theorem qfe{hrt:∀ i,RV w (mutb M0 h σ) h σ (t i) (a.tmps.getD i undef)}{x:Option Operand}{d:Int}{K:Int->Option ρ}{res:ρ}(hb:qfZ t x d K=some res) :
  (x=none/\K d=some res)\/∃ y k m,x=some y/\a.eval y=.int k m/\K m=some res:=by
 unfold qfZ at hb
 split at hb
 ·exact .inl ⟨rfl,hb⟩
 ·rename_i y
  split at hb
  ·rename_i k m e
   have:=qj hrt y
   rw [e] at this
   simp only [RV] at this
   exact .inr ⟨y,k,m,rfl,this,hb⟩
  ·cases hb
theorem qct(k:IntKind)(i:Int)(y:Nat)(code:BoundsCode)(h0:0<=i)(h1:i<=y):(Instr.sliceBound (.int k i) y code).run P w=.ok i.toNat w:=by
 simp [Instr.sliceBound,asIntOf,h0,h1]
theorem qss(hT:TOk P C.T)(R:Rep w0 A M0 w h σ){ty:TypeId}{u:V}{p:Value}{lo hi:Option Operand}(hp:RV w (mutb M0 h σ) h σ u p){K:V->Option ρ}{res:ρ}
  (hb:qmH C ty u lo hi K=some res) :
  ∃ v val,K v=some res/\(Instr.sliceAt ty p (lo.map a.eval) (hi.map a.eval) none).run P w=.ok val w/\RV w (mutb M0 h σ) h σ v val:=by
 unfold qmH at hb
 split at hb
 ·cases hb
 rename_i m e ee he
 obtain⟨hu,ie,z,hie⟩:=qgC hT he
 cases lo with
 | some _=>cases hb
 | none=>
  cases hi with
  | some _=>cases hb
  | none=>
   simp only at hb
   split at hb
   case h_2=>cases hb
   rename_i o off
   obtain⟨hck,hb⟩:=qc hb
   simp only [zA] at hck
   obtain⟨c1,c2,c3⟩:=hck
   have hlt:off<1000000:=zH c2
   simp only [RV] at hp
   obtain⟨b,hab,hx⟩:=hp
   obtain⟨rfl,-⟩:=hx.low c2
   refine⟨_,.slice (some ⟨b,off,none⟩) m m,hb,?_,?_⟩
   ·have:(if m=0 then (⟨b,off,none⟩:Addr) else (⟨b,off,none⟩:Addr).add (0*ie.size))=⟨b,off,none⟩:=by
     split
     ·rfl
     ·rw [addr_add];simp
    simp [Instr.sliceAt,run_underlying hu,Instr.sureAddr,Instr.sliceBounds,hie.sizeOf,Result.andThen,addr_add]
   ·simp only [RV]
    have e1:(off+1000000*m) % 1000000=off:=by omega
    have e2:(off+1000000*m) / 1000000=m:=by omega
    cases eo:getO h o with
    | none=>rw [eo] at hx;exact hx.elim
    | row fz ver ty s xs=>rw [eo] at hx;exact hx.elim
    | cells vs=>exact⟨b,hab,by rw [e1,e2]⟩
    | gone=>rfl
    | oth fz q d=>rw [eo] at hx;obtain⟨h1,-⟩:=hx;omega
    | nst ver q d=>rw [eo] at hx;obtain⟨h1,-⟩:=hx;omega
    | kds ver p t h0 d=>rw [eo] at hx;obtain⟨-,h1,-⟩:=hx;omega
theorem qsr(hT:TOk P C.T)(R:Rep w0 A M0 w h σ)(hrt:∀ i,RV w (mutb M0 h σ) h σ (t i) (a.tmps.getD i undef)){ty:TypeId}{s:Sh}{y:s.den}{p:Value}{lo hi:Option Operand}(hp:RV w (mutb M0 h σ) h σ (.fptr s y) p){K:V->Option ρ}{res:ρ}
  (hb:qkM C t ty s y lo hi K=some res) :
  ∃ v val,K v=some res/\(Instr.sliceAt ty p (lo.map a.eval) (hi.map a.eval) none).run P w=.ok val w/\RV w (mutb M0 h σ) h σ v val:=by
 unfold qkM at hb
 split at hb
 ·cases hb
 rename_i m e ee he
 obtain⟨hu,ie,z,hie⟩:=qgC hT he
 split at hb
 ·cases hb
 rename_i s' hsh
 cases lo with
 | some _=>cases hb
 | none=>
  simp only at hb
  obtain⟨hck,hb⟩:=qc hb
  simp only [zA] at hck
  obtain⟨⟨⟨c1,c2⟩,c3⟩,c4⟩:=hck
  have c1:=zB c1
  have c4:=zH c4
  split at hb
  ·cases hb
  rename_i xs hxs
  simp only [RV] at hp
  obtain⟨b,off,cs,rfl,hblt,hnb,hc,hr⟩:=hp
  have hr':=qbM (h:=h) (σ:=σ) s hr
  obtain⟨hrl,hxl⟩:=qeW R (fun o=>.inl (by simp [getO])) (Mt:=mutb M0 h σ) (fun _ hb=>hb) m (hr'.take m) (fun v hv o ver e' ver' ty' s' ys hg'=>by simp [getO] at hg') hxs
  have hcells:qay w b off (cs.take m):=fun j v hj=>by
   rw [zt] at hj
   split at hj
   ·exact hc _ v hj
   ·cases hj
  have key:∃ l:Int,0<=l/\l<=xs.length/\K (.sl s' (xs.take l.toNat))=some res/\(Instr.sliceBounds false m m none (hi.map a.eval) none).run P w=.ok (0,l.toNat,m) w:=by
   rcases qfe (hrt:=hrt) hb with⟨h9,hb1⟩ | ⟨yh,kh,l,h9,eh,hb1⟩
   ·subst h9
    obtain⟨hok,hb2⟩:=qc hb1
    simp only [zA,zQ] at hok
    exact⟨_,hok.1,hok.2,hb2,by simp [Instr.sliceBounds,hxl]⟩
   ·subst h9
    obtain⟨hok,hb2⟩:=qc hb1
    simp only [zA,zQ] at hok
    exact⟨l,hok.1,hok.2,hb2,by simp [Instr.sliceBounds,eh,qct (P:=P) (w:=w) kh l m .sliceAlen hok.1 (by rw [<- hxl];exact hok.2)]⟩
  obtain⟨l,l0,l1,hK,hrun⟩:=key
  refine⟨_,.slice (some ⟨b,off,none⟩) l.toNat m,hK,?_,?_⟩
  ·have:(if m=0 then (⟨b,off,none⟩:Addr) else (⟨b,off,none⟩:Addr).add (0*ie.size))=⟨b,off,none⟩:=by
    split
    ·rfl
    ·rw [addr_add];simp
   simp only [Option.map_none]
   simp [Instr.sliceAt,run_underlying hu,Instr.sureAddr,hrun,hie.sizeOf,Result.andThen,addr_add]
  ·simp only [RV,RC]
   have hlen:(xs.take l.toNat).length=l.toNat:=by simp;omega
   refine⟨_,_,by rw [hlen],by rw [hlen];omega,by show m<=9223372036854775807;omega,fun hne=>⟨b,off,rfl,hblt,hnb,fun i v hv=>?_⟩⟩
   have hrow:=RL.row hrl hcells
   rw [zt] at hv
   split at hv
   ·exact hrow i v hv
   ·cases hv
theorem qud(hT:TOk P C.T)(R:Rep w0 A M0 w h σ)(hs:Sub hm h)(hrt:∀ i,RV w (mutb M0 h σ) h σ (t i) (a.tmps.getD i undef)){ty:TypeId}{u:V}{p:Value}{lo hi:Option Operand}(hp:RV w (mutb M0 h σ) h σ u p){K:V->Option ρ}{res:ρ}
  (hb:qoT C hm t ty u lo hi K=some res) :
  ∃ v val,K v=some res/\(Instr.sliceAt ty p (lo.map a.eval) (hi.map a.eval) none).run P w=.ok val w/\RV w (mutb M0 h σ) h σ v val:=by
 unfold qoT at hb
 split at hb
 ·split at hb
  ·exact qsr hT R hrt hp hb
  ·exact qss hT R hp hb
 ·rename_i e ee he
  obtain⟨hu,i,z,hie⟩:=qbV hT he
  cases u with
  | sl s xs=>
   simp only at hb
   obtain⟨hn,hb⟩:=qc hb
   simp only [zA] at hn
   have hn1:=zB hn.1
   simp only [RV,RC] at hp
   obtain⟨aa,c,hv,hlen,hcap,hx⟩:=hp
   simp at hv
   subst hv
   have key:∃ (l m:Int),0<=l/\l<=m/\m<=xs.length/\K (.sl s ((xs.take m.toNat).drop l.toNat))=some res /\
     (Instr.sliceBounds true xs.length c (lo.map a.eval) (hi.map a.eval) none).run P w=.ok (l.toNat,m.toNat,c) w:=by
    rcases qfe (hrt:=hrt) (x:=hi) (d:=xs.length) hb with⟨rfl,hb1⟩ | ⟨yh,kh,m,rfl,eh,hb1⟩
    ·rcases qfe (hrt:=hrt) (x:=lo) (d:=0) hb1 with⟨rfl,hb2⟩ | ⟨yl,kl,l,rfl,el,hb2⟩
     ·obtain⟨hok,hb3⟩:=qc hb2
      simp only [zA,zQ] at hok
      exact⟨0,_,hok.1,hok.2.1,hok.2.2,hb3,by simp [Instr.sliceBounds]⟩
     ·obtain⟨hok,hb3⟩:=qc hb2
      simp only [zA,zQ] at hok
      exact⟨l,_,hok.1,hok.2.1,hok.2.2,hb3,by simp [Instr.sliceBounds,el,qct (P:=P) (w:=w) kl l xs.length .sliceB hok.1 hok.2.1]⟩
    ·rcases qfe (hrt:=hrt) (x:=lo) (d:=0) hb1 with⟨rfl,hb2⟩ | ⟨yl,kl,l,rfl,el,hb2⟩
     ·obtain⟨hok,hb3⟩:=qc hb2
      simp only [zA,zQ] at hok
      exact⟨0,m,hok.1,hok.2.1,hok.2.2,hb3,by simp [Instr.sliceBounds,eh,qct (P:=P) (w:=w) kh m c .sliceAcap (by omega) (by omega)]⟩
     ·obtain⟨hok,hb3⟩:=qc hb2
      simp only [zA,zQ] at hok
      exact⟨l,m,hok.1,hok.2.1,hok.2.2,hb3,by
       simp [Instr.sliceBounds,eh,el,qct (P:=P) (w:=w) kh m c .sliceAcap (by omega) (by omega),qct (P:=P) (w:=w) kl l m.toNat .sliceB hok.1 (by omega)]⟩
   obtain⟨l,m,h1,h2,h3,hK,hrun⟩:=key
   refine⟨_,.slice (if c=l.toNat then aa else aa.map (·.add (l.toNat*ee.size))) (m.toNat - l.toNat) (c - l.toNat),hK,?_,?_⟩
   ·simp [Instr.sliceAt,run_underlying hu,Instr.slice,hrun,hie.sizeOf]
   ·have hlen2:((xs.take m.toNat).drop l.toNat).length=m.toNat - l.toNat:=by simp;omega
    simp only [RV,RC]
    refine⟨_,_,by rw [hlen2],by omega,by omega,fun hne=>?_⟩
    have hne':xs ≠ []:=by rintro rfl;simp at hne
    have hlt:l.toNat<m.toNat:=by
     rcases zAO l.toNat m.toNat with hh | hh
     ·exact hh
     ·exact absurd (zY (by omega)) hne
    obtain⟨b,q,rfl,hbl,hm',hr⟩:=hx hne'
    refine⟨b,q+l.toNat*s.n,?_,hbl,hm',fun j x hj=>?_⟩
    ·rw [zL (by omega)];simp [addr_add,hn1]
    ·rw [zAB,zt] at hj
     split at hj
     ·obtain⟨cs,hc,hR⟩:=hr _ x hj
      refine⟨cs,fun j' v hj'=>?_,hR⟩
      have:=hc j' v hj'
      rw [zBd,<- zAF] at this
      exact this
     ·cases hj
  | slc o' ver=>
   simp only at hb
   cases hi with
   | some _=>simp at hb
   | none=>
   simp only at hb
   split at hb
   ·rename_i fz ver' e' s xs eo
    obtain⟨hn,hb⟩:=qc hb
    simp only [zA] at hn
    have hn1:=zB hn.1.1
    have hvv:=zB hn.2
    simp only [RV] at hp
    obtain⟨fz1,ver1,e1,s1,xs1,eo1,hl,h1,hx⟩:=hp
    have eh:=hs.get eo (by simp)
    rw [eh] at eo1
    cases eo1
    have hx:=hx hvv
    subst hx
    obtain⟨l,h0,hle,hK,hrun⟩:∃ l:Int,0<=l/\l<=xs.length/\K (.tl o' ver l.toNat)=some res/\(Instr.sliceBounds true xs.length (σ o').cap (lo.map a.eval) none none).run P w=.ok (l.toNat,xs.length,(σ o').cap) w:=by
     rcases qfe (hrt:=hrt) (x:=lo) (d:=0) hb with⟨rfl,hb2⟩ | ⟨yl,kl,l,rfl,el,hb2⟩
     ·obtain⟨hok,hb3⟩:=qc hb2
      simp only [zA,zQ] at hok
      exact⟨0,hok.1,hok.2,hb3,by simp [Instr.sliceBounds]⟩
     ·obtain⟨hok,hb3⟩:=qc hb2
      simp only [zA,zQ] at hok
      exact⟨l,hok.1,hok.2,hb3,by simp [Instr.sliceBounds,el,qct (P:=P) (w:=w) kl l xs.length .sliceB hok.1 hok.2]⟩
    have hcap:xs.length<=(σ o').cap:=by
     have ro:=R.obj o'
     rw [eh] at ro
     cases fz with
     | true=>
      obtain⟨_,r1,_⟩:=ro
      simp only [RC,rowV] at r1
      obtain⟨_,_,e1,h2,_⟩:=r1
      simp only [zz,Value.slice.injEq,and_true,true_and] at e1
      rw [e1.2];exact h2
     | false=>
      obtain⟨_,cs,r1,_⟩:=ro
      rcases r1.2 with⟨_,h0⟩ | ⟨g,cap,cur,hv,_,_,hnc,_⟩
      ·omega
      ·simp only [rowV,Value.slice.injEq] at hv
       rw [hv.2.2];exact hnc
    refine⟨_,.slice (if (σ o').cap=l.toNat then (σ o').addr else (σ o').addr.map (·.add (l.toNat*ee.size))) (xs.length - l.toNat) ((σ o').cap - l.toNat),hK,?_,?_⟩
    ·simp [Instr.sliceAt,run_underlying hu,Instr.slice,hrun,hie.sizeOf]
    ·simp only [RV]
     rw [eh]
     refine⟨hl,rfl,fun _=>⟨by omega,_,rfl,fun hlt=>?_⟩⟩
     rw [zL (by omega)]
     cases ha:(σ o').a with
     | some b=>exact⟨b,rfl,by simp [Loc.addr,ha,addr_add,hn1]⟩
     | none=>
      exfalso
      have ro:=R.obj o'
      rw [eh] at ro
      cases fz with
      | true=>
       obtain⟨_,r1,_⟩:=ro
       simp only [RC] at r1
       obtain⟨aa,c,hv,_,_,hx'⟩:=r1
       obtain⟨b,q,rfl,_⟩:=hx' (by intro hh;subst hh;simp at hlt)
       simp [rowV,Loc.addr,ha] at hv
      | false=>
       obtain⟨_,cs,r1,_⟩:=ro
       rcases r1.2 with⟨_,h0⟩ | ⟨g,cap,cur,hv,_⟩
       ·omega
       ·simp [rowV,Loc.addr,ha] at hv
   ·cases hb
  | _=>simp at hb
theorem qxM:(vs:List Value)->(off k:Nat)->(cells:Array Value)->off+k+vs.length<=cells.size ->
  ((vs.zipIdx k).foldl (fun (cs:Array Value) (p:Value×Nat)=>cs.setIfInBounds (off+p.2) p.1) cells).toList=cells.toList.take (off+k)++vs++cells.toList.drop (off+k+vs.length)
 | [],off,k,cells,_=>by simp
 | v :: vs,off,k,cells,hl=>by
  simp only [List.zipIdx_cons,List.foldl_cons]
  rw [qxM vs off (k+1) (cells.setIfInBounds (off+k) v) (by simp at hl ⊢;omega)]
  have e:=list_seg_step cells.toList (off+k) v vs (by simp at hl ⊢;omega)
  simpa [Array.toList_setIfInBounds,zAF] using e
theorem qAw(vs:Array Value)(off:Nat)(cells:Array Value)(hl:off+vs.size<=cells.size) :
  (vs.zipIdx.foldl (fun (cs:Array Value) (p:Value×Nat)=>cs.setIfInBounds (off+p.2) p.1) cells).toList=cells.toList.take off++vs.toList++cells.toList.drop (off+vs.size):=by
 rw [<- Array.foldl_toList,Array.toList_zipIdx]
 have:=qxM vs.toList off 0 cells (by simpa using hl)
 simpa using this
theorem qjX{M:Nat->Prop}{place place':Nat->Option (Nat×Nat)}(hpl:∀ i p,place i=some p->place' i=some p)(hrt:∀ i,RV w M h σ (t i) (a.tmps.getD i undef))
  (hev:∀ x,RV w M h σ (ev t x) (a.eval x)) :
  (ps:List (Nat×Operand)) -> {vs us:List V} -> {cs:Array Value}->RVs w M h σ vs cs.toList->(∀ c∈cs.toList,c.oneCell'=true)->fillV place t ps vs=some us ->
  ∃ ds:Array Value,Instr.fill place' cs (ps.map fun p=>(p.1,a.eval p.2))=some ds/\RVs w M h σ us ds.toList/\(∀ c∈ds.toList,c.oneCell'=true)
 | [],vs,us,cs,hr,h1,hf=>by
  simp only [fillV,zD] at hf
  subst hf
  exact⟨cs,rfl,hr,h1⟩
 | (i,x) :: ps,vs,us,cs,hr,h1,hf=>by
  simp only [fillV] at hf
  split at hf
  ·cases hf
  ·rename_i off size hp
   obtain⟨hok,hf⟩:=qc hf
   simp only [zA] at hok
   obtain⟨⟨h2,h3⟩,h4⟩:=hok
   have h2:=zB h2
   have h4:=zH h4
   obtain⟨hv,hv1⟩:=qxb (hev x) h3
   have hsz:(a.eval x).cells.size=size:=by have:=hv.length;simp at this;omega
   have hcs:=hr.length
   simp only [zAt] at hcs
   have hlist:=qAw (a.eval x).cells off cs (by omega)
   have hr':=((hr.take off).append hv).append (hr.drop (off+size))
   rw [<- hsz] at hr'
   rw [<- hlist] at hr'
   rw [hsz] at hr'
   obtain⟨ds,h5,h6,h7⟩:=qjX hpl hrt hev ps hr' (fun c hc=>by
    rw [hlist] at hc
    simp only [zU] at hc
    rcases hc with (hc | hc) | hc
    ·exact h1 c (zAU hc)
    ·exact hv1 c hc
    ·exact h1 c (zAy hc)) hf
   refine⟨ds,?_,h6,h7⟩
   simp only [List.map_cons,Instr.fill,hpl i _ hp]
   rw [zL (by simp [hsz];omega)]
   exact h5
end
end Go.Abs
namespace Go.Abs
open Go.RowKit
section
variable {P : Program} {C : Ctx} {r : Option Nat} {n : Nat} {w0 : World} {A M0 : Nat -> Prop} {w : World} {h hm : List O} {σ : Nat -> Loc} {t : Nat -> V} {a : Act} {o : Oper} {ρ : Type}
theorem qvp(hT:TOk P C.T)(hrt:∀ i,RV w (mutb M0 h σ) h σ (t i) (a.tmps.getD i undef)){ty:TypeId}{ps:Array (Nat×Operand)}{K:V->Option ρ}{res:ρ}(hb:qqr C t ty ps.toList K=some res) :
  ∃ v val,K v=some res/\(Instr.build ty (ps.map fun (i,x)=>(i,a.eval x))).run P w=.ok val w/\RV w (mutb M0 h σ) h σ v val:=by
 unfold qqr at hb
 split at hb
 ·cases hb
 ·rename_i te hte
  obtain⟨i,z,hi⟩:=hT.get hte
  obtain⟨un,hu,hdd⟩:=hi.und
  obtain⟨hz1,hz2⟩:=qip (w:=w) (M:=mutb M0 h σ) (h:=h) (σ:=σ) te.zero hi.zv
  have hmap:(ps.map fun (x:Nat×Operand)=>(x.1,a.eval x.2)).toList=ps.toList.map fun p=>(p.1,a.eval p.2):=by simp
  split at hb
  ·rename_i fs hd
   rw [hd] at hdd
   obtain⟨gs,rfl,hgs,hall⟩:=hdd
   split at hb
   ·cases hb
   ·rename_i vs hf
    have hmm:=ChangeMaps.mapM_total (f:=fun f:Field=>(P.info? f.type).map fun i=>(f.offset,i.size)) (0,0) (l:=gs.toList) (fun x hx=>by
     have:=zm.1 hall x hx
     cases hq:P.info? x.type with
     | none=>rw [hq] at this;cases this
     | some j=>exact⟨_,rfl⟩)
    obtain⟨ds,h1,h2,h3⟩:=qjX (place':=fun x=>(gs.toList.map fun x=>((P.info? x.type).map fun i=>(x.offset,i.size)).getD (0,0)).toArray[x]?) (fun j p hp=>by
     obtain⟨gs',hu',hfp⟩:=qhU hT hte hd
     rw [hu] at hu'
     cases hu'
     obtain⟨off,size⟩:=p
     obtain⟨g,hg,hoff,hsz⟩:=hfp j off size hp
     have hs:=hsz w
     simp only [Go.sizeOf,typeInfo,Sem.run_bind,run_program,Result.andThen_ok] at hs
     cases hq:P.info? g.type with
     | none=>rw [hq] at hs;simp at hs
     | some k=>
      rw [hq] at hs
      simp at hs
      simp [hg,hq,hoff,hs]) hrt (qj hrt) ps.toList hz1 hz2 hf
    refine⟨_,_,hb,run_build w ty _ ds ?_,by simp only [RV];exact⟨ds,rfl,h3,h2⟩⟩
    unfold Program.built
    rw [hi.info,hu]
    simp only [hi.zero,hmm]
    rw [<- h1]
    congr 1
  ·rename_i m e hd
   rw [hd] at hdd
   simp only at hdd
   subst hdd
   split at hb
   ·cases hb
   ·rename_i ee hee
    obtain⟨ie,ze,hie⟩:=hT.get hee
    split at hb
    ·cases hb
    ·rename_i vs hf
     obtain⟨ds,h1,h2,h3⟩:=qjX (place':=fun j=>some (j*ee.size,ee.size)) (fun j p hp=>hp) hrt (qj hrt) ps.toList hz1 hz2 hf
     refine⟨_,_,hb,run_build w ty _ ds ?_,by simp only [RV];exact⟨ds,rfl,h3,h2⟩⟩
     unfold Program.built
     rw [hi.info,hu]
     simp only [hi.zero,hie.info,hie.size]
     rw [<- h1]
     congr 1
  ·cases hb
theorem qlE{mx:Bool}{vs:List V}{xs:List Value}(hp:RVs w (mutb M0 h σ) h σ vs xs){tys:Array TypeId}{rt:TypeId}{K:V->Option ρ}{res:ρ}(hb:qkT mx vs K=some res) :
  ∃ v val,K v=some res/\(bif mx then Builtin.max_ tys rt xs.toArray else Builtin.min_ tys rt xs.toArray).run P w=.ok val w/\RV w (mutb M0 h σ) h σ v val:=by
 unfold qkT at hb
 split at hb
 ·rename_i k x k' y
  split at hb
  ·rename_i hk
   subst hk
   simp only [RVs,RV] at hp
   obtain⟨p,ps,rfl,rfl,q,qs,rfl,rfl,rfl⟩:=hp
   cases mx with
   | true=>exact⟨_,_,hb,by simp [Builtin.max_,Builtin.max2],qfW⟩
   | false=>exact⟨_,_,hb,by simp [Builtin.min_,Builtin.min2],qfW⟩
  ·cases hb
 ·cases hb
theorem qrb{u:V}{p:Value}{i:Nat}(hp:RV w (mutb M0 h σ) h σ u p){K:V->Option ρ}{res:ρ}(hb:qiE u i K=some res) :
  ∃ v val,K v=some res/\(Instr.extract p i).run P w=.ok val w/\RV w (mutb M0 h σ) h σ v val:=by
 cases u with
 | tup vs=>
  simp only [qiE] at hb
  simp only [RV] at hp
  obtain⟨cs,rfl,hr⟩:=hp
  split at hb
  ·rename_i v hv
   obtain⟨x,hx,hvx⟩:=hr.get hv
   exact⟨v,x,hb,by simp at hx;simp [Instr.extract,hx],hvx⟩
  ·cases hb
 | _=>simp [qiE] at hb
theorem qrj(hT:TOk P C.T){s d:TypeId}{u:V}{p:Value}(hp:RV w (mutb M0 h σ) h σ u p){K:V->Option ρ}{res:ρ}(hb:qkd C s d u K=some res) :
  ∃ v val,K v=some res/\(convert s d p).run P w=.ok val w/\RV w (mutb M0 h σ) h σ v val:=by
 unfold qkd at hb
 split at hb
 ·cases hb
 rename_i ts hts
 have hs:∃ us,P.underlying s=some us:=by
  obtain⟨_,_,hi⟩:=hT.get hts
  obtain⟨un,hu,_⟩:=hi.und
  exact⟨un,hu⟩
 split at hb
 ·cases hb
 ·rename_i te hte
  split at hb
  ·rename_i k hd
   obtain⟨i,z,hi⟩:=hT.get hte
   obtain⟨un,hu,hdd⟩:=hi.und
   rw [hd] at hdd
   simp only at hdd
   subst hdd
   cases u with
   | int k' m=>
    simp only at hb
    simp only [RV] at hp
    subst hp
    obtain⟨us,hus⟩:=hs
    refine⟨_,_,hb,?_,qfW⟩
    simp only [convert,Sem.run_bind,run_underlying hus,run_underlying hu,Result.andThen_ok]
    cases us <;> rfl
   | _=>simp at hb
  ·cases hb
theorem qpp(hs:Sub hm h){x:Operand}{u:V}{p:Value}{oo:Oper}(ho:oo.op=.nilCheck x)(hx:a.eval x=p)(hp:RV w (mutb M0 h σ) h σ u p){K:V->Option ρ}{res:ρ}(hb:qdA hm u K=some res) :
  ∃ v val,K v=some res/\(execOp a.eval oo).run P w=.ok (.value val) w/\RV w (mutb M0 h σ) h σ v val:=by
 cases u with
 | ptr o' q=>
  simp only [qdA] at hb
  obtain⟨hlo,hb⟩:=qc hb
  have hp':=hp
  simp only [RV] at hp
  obtain⟨b,ha,hpt⟩:=hp
  obtain⟨hv,-⟩:=hpt.low hlo
  refine⟨_,_,hb,?_,hp'⟩
  subst hv
  simp [execOp,ho,hx]
 | rptr o' ver i q=>
  simp only [qdA] at hb
  obtain⟨hok,hb⟩:=qc hb
  rw [zx] at hok
  refine⟨_,_,hb,?_,hp⟩
  rcases hok with hok | hok
  ·obtain⟨b,s,ha,hv,hr⟩:=qrs hs hp hok
   subst hv
   simp [execOp,ho,hx]
  ·obtain⟨b,s,ha,hv,hr⟩:=qrG hs hp hok
   subst hv
   simp [execOp,ho,hx]
 | fptr s y=>
  simp only [qdA] at hb
  have hp':=hp
  simp only [RV] at hp
  obtain⟨b,q,cs,hv,_⟩:=hp
  refine⟨_,_,hb,?_,hp'⟩
  subst hv
  simp [execOp,ho,hx]
 | clo f cs=>
  simp only [qdA] at hb
  have hp':=hp
  simp only [RV] at hp
  obtain⟨vs,hv,_⟩:=hp
  refine⟨_,_,hb,?_,hp'⟩
  subst hv
  simp [execOp,ho,hx,cloV]
 | _=>simp [qdA] at hb
theorem qEb(f:Nat):Nat.blt (f+1000000) 1000000=false:=zAJ.2 fun h=>by
 have:f+1000000+1<=1000000:=zH h
 omega
theorem qAP{c:Call}{f:Operand}(ho:o.op=.call c)(hc:c.callee=.value f){g:Nat}{first caps:Array Value}(hf:a.eval f=.func (.func g) first caps){fn:Func}{code:Code}
  (hfn : P.funcs[g]? = some fn) (hname : (fn.name == "runtime.NumGoroutine") = false) (hbody : fn.body = some code) {Post : Value → World → Prop}
  (hcall:Calls P g (first++c.args.map a.eval++caps) w fun e w'=>∃ x,e=.returned x/\Post x w'):Does r n P o a w Post:=by
 intro next Q hn
 refine⟨fun _ _=>trivial,?_⟩
 rw [Oper.semAt_eq _ _ _ (by intro c' hc';rw [ho] at hc';cases hc')]
 have hrun:(execOp a.eval o).run P w=.ok (.enter g (first++c.args.map a.eval++caps)) w:=by
  simp only [execOp,ho,resolve,hc,hf,Deferred.ofValue,Sem.run_bind,Sem.run_pure,Result.andThen_ok,invoke,callFunc,run_program,hfn,hname,hbody]
  simp
 rw [hrun]
 refine⟨fun hh=>by simp [WF,Fence.wide] at hh,qnk (hcall.mono ?_)⟩
 rintro e w' ⟨x,rfl,hx⟩
 exact hn x w' hx
theorem qxa{w:World}{M:Nat->Prop}{h:List O}{σ:Nat->Loc}{us caps:List V}{xs vs:Array Value}(g:Nat)(hx:RVs w M h σ us xs.toList)(hc:RVs w M h σ caps vs.toList):RVs w M h σ (argsF g us caps) (fstF g vs++xs++capF g vs).toList:=by
 unfold argsF fstF capF
 cases Nat.blt g 1000000 with
 | true=>simpa using hx.append hc
 | false=>simpa using hc.append hx
theorem qzT{l:List (String×Nat)}{s:String}{g:Nat}(h:mlook l s=some g):(s,g)∈l/\Nat.blt g 1000000=true:=by
 induction l with
 | nil=>cases h
 | cons m r ih=>
  simp only [mlook] at h
  cases hb:m.1==s with
  | true=>
   rw [hb,cond_true] at h
   obtain⟨h1,h2⟩:=qc h
   cases h2
   have:=eq_of_beq hb
   subst this
   exact⟨by simp,h1⟩
  | false=>
   rw [hb,cond_false] at h
   exact⟨by simp [(ih h).1],(ih h).2⟩
theorem qyl{t:TypeId}{nm:String}{f:Nat}(hm:quy P t nm f=true)(d:Nat)(v:Value)(w:World):(Go.method (d+1) t v nm).run P w=.ok (f,v) w:=by
 unfold quy at hm
 split at hm
 ·cases hm
 rename_i i hi
 split at hm
 ·cases hm
 rename_i m hf
 split at hm
 ·cases hm
 rename_i hpt
 split at hm
 ·cases hm
 rename_i g pr hmf
 rw [zA] at hm
 obtain⟨h1,h2⟩:=hm
 have h1:=zB h1
 subst h1
 split at h2
 ·cases h2
 rename_i u hu
 have hr:∀ wr,(receiverAt t (.val v) pr wr).run P w=.ok v w:=fun wr=>by
  unfold receiverAt
  rw [Sem.run_bind,run_underlying hu,Result.andThen_ok]
  cases u <;> simp only at h2 <;> (try simp only [zT] at h2) <;> subst h2 <;> rfl
 unfold Go.method
 simp only [Sem.run_bind,typeInfo,hi,hf,hpt,follow,Sem.run_pure,Result.andThen_ok,hmf]
 simp [hi,hf,hpt,follow,hmf,hr]
theorem qgz(hT:TOk P C.T)(hrt:∀ i,RV w (mutb M0 h σ) h σ (t i) (a.tmps.getD i undef)){g:Nat}{caps args:List V}(hc:callT C.T t o.op=some (.clo g caps,args)){fn:Func}{code:Code}
  (hfn : P.funcs[tgtF g]? = some fn) (hname : (fn.name == "runtime.NumGoroutine") = false) (hbody : fn.body = some code) :
  ∃ vs:Array Value,RVs w (mutb M0 h σ) h σ (argsF g args caps) vs.toList/\∀ Post:Value->World->Prop,Calls P (tgtF g) vs w (fun e w'=>∃ x,e=.returned x/\Post x w')->Does r n P o a w Post:=by
 unfold callT at hc
 split at hc
 case h_2=>cases hc
 rename_i c ho
 split at hc
 ·rename_i f hcf
  have hev:=qj hrt f
  simp only [zD,zN] at hc
  obtain⟨hc1,rfl⟩:=hc
  rw [hc1] at hev
  simp only [RV] at hev
  obtain⟨vs,hv,hcaps⟩:=hev
  exact⟨_,qxa g (xs:=c.args.map a.eval) (by rw [zCN];exact qgv hrt c.args.toList) hcaps,fun Post hcall=>qAP ho hcf hv hfn hname hbody hcall⟩
 ·rename_i rc nm hcf
  have hev:=qj hrt rc
  split at hc
  case h_2=>cases hc
  rename_i ty u hty
  split at hc
  ·cases hc
  rename_i te hte
  split at hc
  ·cases hc
  rename_i g' hg'
  cases hc
  obtain⟨i,z,hi⟩:=hT.get hte
  obtain⟨hmem,hlt⟩:=qzT hg'
  have hmo:quy P ty nm g=true:=zm.1 hi.ms _ hmem
  rw [hty] at hev
  simp only [RV] at hev
  obtain⟨x,hx,hu⟩:=hev
  have htg:tgtF g=g:=by unfold tgtF;rw [hlt];rfl
  have hag:argsF g (u :: c.args.toList.map (ev t)) []=u :: c.args.toList.map (ev t):=by unfold argsF;rw [hlt];simp
  refine⟨#[x]++c.args.map a.eval,?_,fun Post hcall=>?_⟩
  ·rw [hag,Array.toList_append]
   simp only [List.cons_append,List.nil_append,RVs]
   exact⟨x,_,rfl,hu,by rw [zCN];exact qgv hrt c.args.toList⟩
  ·rw [htg] at hfn hcall
   intro next Q hn
   refine⟨fun _ _=>trivial,?_⟩
   rw [Oper.semAt_eq _ _ _ (by intro c' hc';rw [ho] at hc';cases hc')]
   have hd:P.types.size+Made.depth=(P.types.size+99)+1:=rfl
   have hrun:(execOp a.eval o).run P w=.ok (.enter g (#[x]++c.args.map a.eval)) w:=by
    have h0:(#[Value.iface ty x]++c.args.map a.eval)[0]? = some (.iface ty x):=by rw [zBU (by simp)];rfl
    have h1:(#[Value.iface ty x]++c.args.map a.eval).extract 1 (#[Value.iface ty x]++c.args.map a.eval).size=c.args.map a.eval:=by
     apply Array.ext'
     simp only [zBA,Array.toList_append,zBY]
     simp
     exact zAl (by simp)
    simp only [execOp,ho,resolve,hcf,hx,Sem.run_bind,Sem.run_pure,Result.andThen_ok,invoke,h0,h1,callMethod,run_program]
    rw [hd,qyl hmo]
    simp only [Result.andThen_ok,callFunc,Sem.run_bind,run_program,hfn,hname,hbody]
    simp
   rw [hrun]
   refine⟨fun hh=>by simp [WF,Fence.wide] at hh,qnk (hcall.mono ?_)⟩
   rintro e w' ⟨x,rfl,hx⟩
   exact hn x w' hx
 ·cases hc
theorem qvm(hT:TOk P C.T)(hG:GOk P C)(hL:Gl C.gs w0 A)(R:Rep w0 A M0 w h σ)(hs:Sub hm h)(hrt:∀ i,RV w (mutb M0 h σ) h σ (t i) (a.tmps.getD i undef)){p:V×List V}(hc:callT C.T t o.op=some p)
  {K:V->Option ρ} {res:ρ} (hb:qsc C hm p.1 p.2 K=some res):∃ v,K v=some res/\Does r n P o a w (PostR M0 w h σ v):=by
 obtain⟨f,args⟩:=p
 unfold qsc at hb
 split at hb
 ·rename_i g caps e
  simp only at e hb
  subst e
  split at hb
  ·cases hb
  ·rename_i p hp
   split at hb
   ·rename_i hph
    cases hpr:p.r with
    | none=>rw [hpr] at hb;cases hb
    | some y=>
     rw [hpr] at hb
     simp only [Option.bind_some,p.spOk] at hb
     obtain⟨fn,code,h1,h2,h3⟩:=hG.fn (tgtF g) _ _ _ hp
     obtain⟨vs,hargs,hd⟩:=qgz (r:=r) (n:=n) hT hrt hc h1 h2 h3
     have:=hG.rd (tgtF g) _ h hm p y hs hp hph hpr w0 A M0 w σ hL R _ hargs
     rw [Array.toArray_toList] at this
     exact⟨_,hb,hd _ (this.mono fun e w' ⟨x,h1,h2,h3⟩=>⟨x,h1,h2,h3⟩)⟩
   ·cases hb
 ·cases hb
theorem qiv(hT:TOk P C.T){ty:TypeId}{q:Oth}(hq:mapTy C.T ty=some q):P.underlying ty=some (.map q.kt q.et)/\keyOk P q.kt q.k=true/\zOk P q.et q.v=true/\q.it=false:=by
 unfold mapTy at hq
 split at hq
 ·cases hq
 ·rename_i te hte
  obtain⟨i,z,hi⟩:=hT.get hte
  obtain⟨u,h1,h2⟩:=hi.und
  split at hq
  ·rename_i k e ks vs hd
   rw [hd] at h2
   obtain⟨rfl,h3,h4⟩:=h2
   simp only [zD] at hq
   subst hq
   exact⟨h1,h3,h4,rfl⟩
  ·cases hq
theorem qBZ{T:List (Nat×TE)}{ty:TypeId}{q:Oth}(hq:mapTy T ty=some q):q.un=false:=by
 unfold mapTy at hq
 split at hq
 ·cases hq
 ·split at hq
  ·cases hq;rfl
  ·cases hq
theorem qda(hT:TOk P C.T)(R:Rep w0 A M0 w h σ)(hs:Sub hm h){ty:TypeId}{u:V}{p:Value}(hp:RV w (mutb M0 h σ) h σ u p){ob:Nat}{fz:Bool}{q:Oth}{d:q.sh.den}(hat:mapAt C.T hm ty u=some (ob,fz,⟨q,d⟩)) :
  P.underlying ty=some (.map q.kt q.et)/\keyOk P q.kt q.k=true/\zOk P q.et q.v=true/\q.it=false/\getO hm ob=.oth fz q d/\getO h ob=.oth fz q d /\
  ∃ b es clock,(σ ob).a=some b/\p=.map (some b)/\w.heap[b]? = some (.map es clock)/\MB w (mutb M0 h σ) q.k q.v d es clock:=by
 unfold mapAt at hat
 split at hat
 ·cases hat
 ·rename_i q0 hq0
  split at hat
  ·rename_i o' off
   split at hat
   ·rename_i fz' q' d' eo
    obtain⟨hqq,hat⟩:=qc hat
    simp only [zQ] at hqq
    subst hqq
    simp only [zD,zN] at hat
    obtain⟨rfl,rfl,hat⟩:=hat
    cases hat
    obtain⟨h1,h2,h3,h4⟩:=qiv hT hq0
    have eh:=hs.get eo (by simp)
    simp only [RV] at hp
    obtain⟨b,ha,hx⟩:=hp
    rw [eh] at hx
    obtain⟨-,hx⟩:=hx
    rw [h4,cond_false] at hx
    have ro:=R.obj ob
    rw [eh] at ro
    obtain⟨rq,-⟩:=ro
    replace rq:=rq.q (qBZ hq0)
    unfold RQ at rq
    rw [h4] at rq
    obtain⟨b',es,clock,ha',hb,hc,he,hlt,hnd⟩:=rq
    rw [ha] at ha';cases ha'
    exact⟨h1,h2,h3,h4,eo,eh,b,es,clock,ha,hx,hb,⟨hc,he,hlt,hnd⟩⟩
   ·cases hat
  ·cases hat
theorem qsS(hT:TOk P C.T)(R:Rep w0 A M0 w h σ)(hs:Sub hm h){ty:TypeId}{u i:V}{p j:Value}(hp:RV w (mutb M0 h σ) h σ u p)(hi:RV w (mutb M0 h σ) h σ i j){ok:Bool}{K:V->Option ρ}{res:ρ}(hb:qkV C hm ty u i ok K=some res) :
  ∃ v val,K v=some res/\(Instr.lookup ty p j ok).run P w=.ok val w/\RV w (mutb M0 h σ) h σ v val:=by
 unfold qkV at hb
 split at hb
 ·cases hb
 ·rename_i ob fz q d hat
  obtain⟨h1,h2,h3,h4,-,-,b,es,clock,ha,rfl,hbl,B⟩:=qda hT R hs hp hat
  split at hb
  ·cases hb
  ·rename_i y hy
   obtain⟨c,hc,hrun⟩:=qqQ h1 h2 h3 hbl B (qcv R hi hy) ok
   cases ok with
   | true=>
    refine⟨_,_,hb,hrun,?_⟩
    simp only [RV,if_true]
    exact⟨_,rfl,⟨_,_,rfl,qeB hc,⟨_,_,rfl,qeD,rfl⟩⟩⟩
   | false=>exact⟨_,_,hb,hrun,qeB hc⟩
theorem qnB(hT:TOk P C.T){ty:TypeId}{q:Nst}(hq:qnC C.T ty=some q):P.underlying ty=some (.map q.kt q.et)/\keyOk P q.kt q.k=true/\kidOk P q.et q.kd=true/\q.it=false:=by
 unfold qnC at hq
 split at hq
 ·cases hq
 ·rename_i te hte
  obtain⟨i,z,hi⟩:=hT.get hte
  obtain⟨u,h1,h2⟩:=hi.und
  split at hq
  ·rename_i k e ks vs hd
   rw [hd] at h2
   obtain⟨rfl,h3,h4⟩:=h2
   simp only [zD] at hq
   subst hq
   exact⟨h1,h3,h4,rfl⟩
  ·cases hq
theorem qyw{t:TypeId}{kd:Kid}{kq:Oth}(h:kidOk P t kd=true)(hk:kdMap kd=some kq):∀ w:World,(zeroValue t).run P w=.ok (.map none) w:=by
 cases kd with
 | row e s=>cases hk
 | map q=>
  simp only [kidOk,zA] at h
  obtain⟨h1,-⟩:=h
  split at h1
  ·cases h1
  ·rename_i i hi
   split at h1
   ·rename_i hz
    intro w
    simp [zeroValue,typeInfo,hi,hz]
   ·cases h1
theorem qwc(hT:TOk P C.T)(R:Rep w0 A M0 w h σ)(hs:Sub hm h){ty:TypeId}{u:V}{p:Value}(hp:RV w (mutb M0 h σ) h σ u p){ob ver:Nat}{q:Nst}{d:q.sh.den}(hat:nstAt C.T hm ty u=some (ob,ver,⟨q,d⟩)) :
  P.underlying ty=some (.map q.kt q.et)/\keyOk P q.kt q.k=true/\kidOk P q.et q.kd=true/\q.it=false/\getO hm ob=.nst ver q d/\getO h ob=.nst ver q d /\
  ∃ b es clock,(σ ob).a=some b/\p=.map (some b)/\w.heap[b]? = some (.map es clock)/\NB w (mutb M0 h σ) q.k q.kd d es clock b (σ ob).ex:=by
 unfold nstAt at hat
 split at hat
 ·cases hat
 ·rename_i q0 hq0
  split at hat
  ·rename_i o' off
   split at hat
   ·rename_i ver' q' d' eo
    obtain⟨hqq,hat⟩:=qc hat
    simp only [zQ] at hqq
    subst hqq
    simp only [zD,zN] at hat
    obtain⟨rfl,rfl,hat⟩:=hat
    cases hat
    obtain⟨h1,h2,h3,h4⟩:=qnB hT hq0
    have eh:=hs.get eo (by simp)
    simp only [RV] at hp
    obtain⟨b,ha,hx⟩:=hp
    rw [eh] at hx
    obtain⟨-,hx⟩:=hx
    rw [h4,cond_false] at hx
    have ro:=R.obj ob
    rw [eh] at ro
    have rq:RN w (mutb M0 h σ) (σ ob) q d:=ro
    unfold RN at rq
    rw [h4] at rq
    obtain⟨b',es,clock,ha',hb,hc,he,hlt,hnd,hsep⟩:=rq
    rw [ha] at ha';cases ha'
    exact⟨h1,h2,h3,h4,eo,eh,b,es,clock,ha,hx,hb,⟨hc,he,hlt,hnd,hsep⟩⟩
   ·cases hat
  ·cases hat
theorem qqY(hT:TOk P C.T)(R:Rep w0 A M0 w h σ)(hs:Sub hm h){ty:TypeId}{u i:V}{p j:Value}(hp:RV w (mutb M0 h σ) h σ u p)(hi:RV w (mutb M0 h σ) h σ i j){ok:Bool}{K:V->Option ρ}{res:ρ}(hb:qgY C hm ty u i ok K=some res) :
  ∃ v val,K v=some res/\(Instr.lookup ty p j ok).run P w=.ok val w/\RV w (mutb M0 h σ) h σ v val:=by
 unfold qgY at hb
 split at hb
 ·cases hb
 ·rename_i ob ver q d hat
  obtain⟨h1,h2,h3,h4,-,eh,b,es,clock,ha,rfl,hbl,B⟩:=qwc hT R hs hp hat
  split at hb
  ·cases hb
  ·rename_i kq hkq
   split at hb
   ·cases hb
   ·rename_i y hy
    cases ok with
    | true=>cases hb
    | false=>
     simp only [cond_false] at hb
     rcases qoW h1 h2 (qyw h3 hkq) hbl B (qcv R hi hy) with⟨q1,q2⟩ | ⟨j',e,y',c,q1,q2,q3,q4,q5,q6⟩
     ·rw [q1,cond_false] at hb
      exact⟨_,_,hb,q2,by simp only [RV];rfl⟩
     ·rw [q1,cond_true] at hb
      refine⟨_,_,hb,q3,?_⟩
      simp only [RV]
      rw [eh,q2]
      have hev:e.val=.map (some c):=q6.kid.val hkq
      rw [hev]
      exact⟨Nat.le_refl _,rfl,fun _=>⟨rfl,c,q5,rfl⟩⟩
theorem qwl(R:Rep w0 A M0 w h σ)(hs:Sub hm h){u:V}{p:Value}{ty kt et:TypeId}(hu:P.underlying ty=some (.map kt et)){tys:Array TypeId}{rt:TypeId}(ht:tys[0]? = some ty)(hp:RV w (mutb M0 h σ) h σ u p){K:V->Option ρ}{res:ρ}{rest:List Value}(hb:lenNK hm u K=some res) :
  ∃ v val,K v=some res/\(Builtin.len_ tys rt (p :: rest).toArray).run P w=.ok val w/\RV w (mutb M0 h σ) h σ v val:=by
 unfold lenNK at hb;cases hb
theorem qsT(hT:TOk P C.T)(R:Rep w0 A M0 w h σ)(hs:Sub hm h){ty kt et:TypeId}(hu:P.underlying ty=some (.map kt et)){u:V}{p:Value}{tys:Array TypeId}{rt:TypeId}(ht:tys[0]? = some ty)(hp:RV w (mutb M0 h σ) h σ u p){K:V->Option ρ}{res:ρ}{rest:List Value}(hb:qmR C hm ty u K=some res) :
  ∃ v val,K v=some res/\(Builtin.len_ tys rt (p :: rest).toArray).run P w=.ok val w/\RV w (mutb M0 h σ) h σ v val:=by
 unfold qmR at hb
 split at hb
 ·split at hb
  ·rename_i n hn
   cases u with
   | ptr o1 off=>
    simp only [unLen] at hn
    split at hn
    ·rename_i fz q d eo
     obtain⟨hq,hn⟩:=qc hn
     simp only [zA,zT] at hq
     simp only [zD] at hn
     subst hn
     have eh:=hs.get eo (by simp)
     simp only [RV] at hp
     obtain⟨b,ha,hx⟩:=hp
     rw [eh] at hx
     obtain⟨-,hx⟩:=hx
     rw [hq.2,cond_false] at hx
     subst hx
     have ro:=R.obj o1
     rw [eh] at ro
     obtain⟨⟨d',hu',rq⟩,-⟩:=ro
     unfold UnQ at hu'
     rw [hq.1] at hu'
     unfold RQ at rq
     rw [hq.2] at rq
     obtain⟨b',es,clock,ha',hbl,hc,he,hlt,hnd⟩:=rq
     rw [ha] at ha';cases ha'
     have hl:d.2.length=d'.2.length:=by simpa using List.Perm.length_eq hu'
     rw [hl] at hb
     exact⟨_,_,hb,qoX hu hbl ⟨hc,he,hlt,hnd⟩ ht rest,qfW⟩
    ·cases hn
   | _=>simp only [unLen] at hn;cases hn
  ·exact qwl R hs hu ht hp hb
 ·rename_i ob fz q d hat
  obtain⟨h1,h2,h3,h4,-,-,b,es,clock,ha,rfl,hbl,B⟩:=qda hT R hs hp hat
  exact⟨_,_,hb,qoX h1 hbl B ht rest,qfW⟩
theorem qnO(R:Rep w0 A M0 w h σ)(hs:Sub hm h){u:V}{p:Value}(hp:RV w (mutb M0 h σ) h σ u p){ob:Nat}{q:Oth}{d:q.sh.den}(hat:iterAt hm u=some (ob,⟨q,d⟩)) :
  q.it=true/\q.un=false/\getO hm ob=.oth false q d/\getO h ob=.oth false q d/\∃ b,(σ ob).a=some b/\p=.pointer (some ⟨b,0,none⟩)/\RQ w (mutb M0 h σ) (σ ob) q d:=by
 unfold iterAt at hat
 cases u with
 | ptr o1 off=>
  simp only at hat
  cases eo:getO hm o1 with
  | oth fz q' d'=>
   rw [eo] at hat
   cases fz with
   | true=>cases hat
   | false=>
    simp only at hat
    cases hqq:q'.it with
    | false=>rw [hqq] at hat;cases hat
    | true=>
    cases hqu:q'.un with
    | true=>rw [hqq,hqu] at hat;cases hat
    | false=>
    rw [hqq,hqu] at hat
    simp only [Bool.not_false,Bool.and_self,cond_true,zD,zN,Sigma.mk.injEq] at hat
    obtain⟨rfl,rfl,hat⟩:=hat
    obtain rfl:=eq_of_heq hat
    have eh:=hs.get eo (by simp)
    simp only [RV] at hp
    obtain⟨b,ha,hx⟩:=hp
    rw [eh] at hx
    obtain⟨-,hx⟩:=hx
    rw [hqq,cond_true] at hx
    have ro:=R.obj o1
    rw [eh] at ro
    exact⟨hqq,hqu,eo,eh,b,ha,hx,ro.1.q hqu⟩
  | _=>rw [eo] at hat;cases hat
 | _=>cases hat
theorem qwd(R:Rep w0 A M0 w h σ)(hs:Sub hm h){u:V}{p:Value}(hp:RV w (mutb M0 h σ) h σ u p){ob ver:Nat}{q:Nst}{d:q.sh.den}(hat:nitAt hm u=some (ob,ver,⟨q,d⟩)) :
  q.it=true/\(∃ kq,q.kd=.map kq/\kq.it=false)/\getO h ob=.nst ver q d/\∃ b,(σ ob).a=some b/\p=.pointer (some ⟨b,0,none⟩)/\RN w (mutb M0 h σ) (σ ob) q d:=by
 unfold nitAt at hat
 cases u with
 | ptr o1 off=>
  simp only at hat
  cases eo:getO hm o1 with
  | nst ver' q' d'=>
   rw [eo] at hat
   simp only at hat
   split at hat
   ·rename_i kq hkq
    obtain⟨hc,hat⟩:=qc hat
    simp only [zA,zT] at hc
    simp only [zD,zN,Sigma.mk.injEq] at hat
    obtain⟨rfl,rfl,rfl,hat⟩:=hat
    obtain rfl:=eq_of_heq hat
    have eh:=hs.get eo (by simp)
    simp only [RV] at hp
    obtain⟨b,ha,hx⟩:=hp
    rw [eh] at hx
    obtain⟨-,hx⟩:=hx
    rw [hc.1,cond_true] at hx
    have ro:=R.obj o1
    rw [eh] at ro
    exact⟨hc.1,⟨kq,hkq,hc.2⟩,eh,b,ha,hx,ro⟩
   ·cases hat
  | _=>rw [eo] at hat;cases hat
 | _=>cases hat
theorem qtj(R:Rep w0 A M0 w h σ)(hs:Sub hm h){u:V}{p:Value}(hp:RV w (mutb M0 h σ) h σ u p){K:V->Option ρ}{res:ρ}(hb:qqe hm u K=some res) :
  ∃ v val,K v=some res/\(Instr.entry p).run P w=.ok val w/\RV w (mutb M0 h σ) h σ v val:=by
 unfold qqe at hb;cases hb
theorem quX(R:Rep w0 A M0 w h σ)(hs:Sub hm h){u:V}{p:Value}(hp:RV w (mutb M0 h σ) h σ u p){K:V->Option ρ}{res:ρ}(hb:qrP hm u K=some res) :
  ∃ v val,K v=some res/\(Instr.entry p).run P w=.ok val w/\RV w (mutb M0 h σ) h σ v val:=by
 unfold qrP at hb
 split at hb
 ·exact qtj R hs hp hb
 ·rename_i ob q d hat
  obtain⟨h1,-,-,eh,b,ha,rfl,rq⟩:=qnO R hs hp hat
  split at hb
  ·rename_i e r hd
   obtain⟨hd1,hb⟩:=qc hb
   have hd1:d.1=1:=by simpa using hd1
   unfold RQ at rq
   rw [h1] at rq
   obtain⟨b',bm,since,last,seen,es,clock,ha',hbi,hlt,hm',hbm,hbs,hsl,hnd,hE,hcur⟩:=rq
   rw [ha] at ha';cases ha'
   obtain⟨e',s0,x,r',q1,q2,q3,q4,q5⟩:=hcur hd1
   rw [hd] at q4
   cases q4
   subst q2;subst q3
   refine⟨_,_,hb,run_entry_at w _ _ _ _ es _ e' hbi hbm q1 hnd,?_⟩
   simp only [RV]
   exact⟨_,rfl,⟨_,_,rfl,qeB q5.kD,⟨_,_,rfl,qeB q5.vD,rfl⟩⟩⟩
  ·cases hb
theorem qqb(hT:TOk P C.T)(hG:GOk P C)(hL:Gl C.gs w0 A)(R:Rep w0 A M0 w h σ)(hs:Sub hm h)(hrt:∀ i,RV w (mutb M0 h σ) h σ (t i) (a.tmps.getD i undef)){K:V->Option ρ}{res:ρ}(hb:evR C o.op t hm K=some res) :
  ∃ v,K v=some res/\Does r n P o a w (PostR M0 w h σ v):=by
 have fin:∀ {e:Sem Value},(∀ c,o.op≠.defer c)->(execOp a.eval o=do pure (.value (<- e)))->(∃ v val,K v=some res/\e.run P w=.ok val w/\RV w (mutb M0 h σ) h σ v val) ->
   ∃ v,K v=some res/\Does r n P o a w (PostR M0 w h σ v):=fun {e} hd he ⟨v,val,h1,h2,h3⟩=>
  ⟨v,h1,qhZ hd (by rw [he,Sem.run_bind,h2];rfl) h3⟩
 unfold evR at hb
 split at hb
 ·rename_i x ho
  exact⟨_,hb,qhZ (by rw [ho];simp) (by first | (simp only [execOp,ho];done) | (simp only [execOp,ho];rfl)) (qj hrt x)⟩
 ·rename_i x ho
  exact⟨_,hb,qhZ (by rw [ho];simp) (by first | (simp only [execOp,ho];done) | (simp only [execOp,ho];rfl)) (qj hrt x)⟩
 ·rename_i c x y ho
  have hc:=qj hrt c
  unfold pickK at hb
  split at hb
  ·rename_i b e
   rw [e] at hc
   simp only [RV] at hc
   cases b with
   | true=>exact⟨_,hb,qhZ (by rw [ho];simp) (by simp [execOp,ho,hc,asBool]) (qj hrt x)⟩
   | false=>exact⟨_,hb,qhZ (by rw [ho];simp) (by simp [execOp,ho,hc,asBool]) (qj hrt y)⟩
  ·cases hb
 ·rename_i op ty x y yt ho
  split at hb
  ·exact fin (e:=do eqGuard op ty x (.const .nilIface) (a.eval x) .nilIface;binOp op ty (a.eval x) .nilIface) (by rw [ho];simp) (by simp only [execOp,ho];rfl) (qta hT (qj hrt x) hb)
  ·exact fin (e:=do eqGuard op ty x (.const (.pointer none)) (a.eval x) (.pointer none);binOp op ty (a.eval x) (.pointer none)) (by rw [ho];simp) (by simp only [execOp,ho];rfl) (qsH hT (qj hrt x) hb)
  ·exact fin (e:=do eqGuard op ty x (.const (.map none)) (a.eval x) (.map none);binOp op ty (a.eval x) (.map none)) (by rw [ho];simp) (by simp only [execOp,ho];rfl) (qsQ hT hs (qj hrt x) hb)
  ·exact fin (e:=do eqGuard op ty x y (a.eval x) (a.eval y);binOp op ty (a.eval x) (a.eval y)) (by rw [ho];simp) (by simp only [execOp,ho]) (qvu hT R (qj hrt x) (qj hrt y) hb)
 ·rename_i ty x ho
  exact fin (by rw [ho];simp) (by first | (simp only [execOp,ho];done) | (simp only [execOp,ho];rfl)) (qux hT (qj hrt x) hb)
 ·rename_i op ty x ho
  exact fin (by rw [ho];simp) (by first | (simp only [execOp,ho];done) | (simp only [execOp,ho];rfl)) (qvM (qj hrt x) hb)
 ·rename_i s d x ho
  exact fin (by rw [ho];simp) (by first | (simp only [execOp,ho];done) | (simp only [execOp,ho];rfl)) (qrj hT (qj hrt x) hb)
 ·rename_i x ho
  obtain⟨v,val,h1,h2,h3⟩:=qpp (P:=P) hs ho rfl (qj hrt x) hb
  exact⟨v,h1,qhZ (by rw [ho];simp) h2 h3⟩
 ·rename_i ty x ho
  exact fin (by rw [ho];simp) (by first | (simp only [execOp,ho];done) | (simp only [execOp,ho];rfl)) (qwi hT R hs (qj hrt x) hb)
 ·rename_i ty x f ho
  exact fin (by rw [ho];simp) (by first | (simp only [execOp,ho];done) | (simp only [execOp,ho];rfl)) (qot hT hs (qj hrt x) hb)
 ·rename_i ty x f ho
  exact fin (by rw [ho];simp) (by first | (simp only [execOp,ho];done) | (simp only [execOp,ho];rfl)) (quQ hT (qj hrt x) hb)
 ·rename_i ty x i ho
  exact fin (by rw [ho];simp) (by first | (simp only [execOp,ho];done) | (simp only [execOp,ho];rfl)) (qor hT R hs (qj hrt x) (qj hrt i) hb)
 ·rename_i ty x i ho
  split at hb
  ·rename_i s
   exact fin (by rw [ho];simp) (by first | (simp only [execOp,ho];done) | (simp only [execOp,ho];rfl)) (qpM hT (qj hrt i) hb)
  ·exact fin (by rw [ho];simp) (by first | (simp only [execOp,ho];done) | (simp only [execOp,ho];rfl)) (quH hT (qj hrt x) (qj hrt i) hb)
 ·rename_i x i ho
  exact fin (by rw [ho];simp) (by first | (simp only [execOp,ho];done) | (simp only [execOp,ho];rfl)) (qrb (qj hrt x) hb)
 ·rename_i ty ps ho
  exact fin (by rw [ho];simp) (by first | (simp only [execOp,ho];done) | (simp only [execOp,ho];rfl)) (qvp hT hrt hb)
 ·rename_i fn first caps ho
  split at hb
  ·rename_i f
   obtain⟨hlt,hb⟩:=qc hb
   have hfin:∀ {v:V},K v=some res->RV w (mutb M0 h σ) h σ v (.func (.func f) (first.map a.eval) (caps.map a.eval))->∃ v,K v=some res/\Does r n P o a w (PostR M0 w h σ v):=fun hb hv=>
    fin (e:=Instr.makeFunc (.func f) (first.map a.eval) (caps.map a.eval)) (by rw [ho];simp) (by simp only [execOp,ho]) ⟨_,_,hb,rfl,hv⟩
   cases hf:first.isEmpty with
   | true=>
    rw [hf] at hb
    simp only [cond_true] at hb
    refine hfin hb ?_
    have:first = #[]:=by simpa using hf
    subst this
    simp only [RV]
    exact⟨caps.map a.eval,by simp [cloV,tgtF,fstF,capF,hlt],by simpa using qgv hrt caps.toList⟩
   | false=>
    rw [hf] at hb
    simp only [cond_false] at hb
    obtain⟨hc,hb⟩:=qc hb
    have:caps = #[]:=by simpa using hc
    subst this
    refine hfin hb ?_
    have hge:=qEb f
    simp only [RV]
    exact⟨first.map a.eval,by simp [cloV,tgtF,fstF,capF,hge],by simpa using qgv hrt first.toList⟩
  ·cases hb
 ·rename_i ty x lo hi mx ho
  split at hb
  ·exact fin (by rw [ho];simp) (by first | (simp only [execOp,ho];done) | (simp only [execOp,ho];rfl)) (qud hT R hs hrt (qj hrt x) hb)
  ·cases hb
 ·rename_i ty x i ok ho
  split at hb
  ·exact fin (by rw [ho];simp) (by first | (simp only [execOp,ho];done) | (simp only [execOp,ho];rfl)) (qqY hT R hs (qj hrt x) (qj hrt i) hb)
  ·exact fin (by rw [ho];simp) (by first | (simp only [execOp,ho];done) | (simp only [execOp,ho];rfl)) (qsS hT R hs (qj hrt x) (qj hrt i) hb)
 ·rename_i x ho
  exact fin (by rw [ho];simp) (by first | (simp only [execOp,ho];done) | (simp only [execOp,ho];rfl)) (quX R hs (qj hrt x) hb)
 ·rename_i c ho
  unfold callR at hb
  split at hb
  ·rename_i b hcb
   have hexec:∀ (s:Sem Value),(∀ cs,builtin b c.argTypes o.type cs (c.args.map a.eval)=s >>= fun v=>pure (.value v))->execOp a.eval o=s >>= fun v=>pure (.value v):=fun s hs'=>by
    simp only [execOp,ho,resolve,hcb,invoke]
    exact hs' _
   split at hb
   ·split at hb
    ·rename_i x ty hx hty
     obtain⟨l,hl⟩:∃ l,c.args=(x :: l).toArray:=by
      cases hca:c.args.toList with
      | nil=>simp [<- zp,hca] at hx
      | cons y l=>
       simp [<- zp,hca] at hx
       subst hx
       exact⟨l,by apply Array.ext';simpa using hca⟩
     refine fin (e:=Builtin.len_ c.argTypes o.type (c.args.map a.eval)) (by rw [ho];simp) (hexec _ fun _=>rfl) ?_
     split at hb
     ·rename_i q0 hq0
      have:=qsT (rt:=o.type) (rest:=l.map a.eval) hT R hs (qiv hT hq0).1 hty (qj hrt x) hb
      rw [hl]
      simpa using this
     ·have:=qyt (rt:=o.type) (rest:=l.map a.eval) hT R hs hty (qj hrt x) hb
      rw [hl]
      simpa using this
    ·cases hb
   ·refine fin (e:=Builtin.min_ c.argTypes o.type (c.args.map a.eval)) (by rw [ho];simp) (hexec _ fun _=>rfl) ?_
    have:=qlE (P:=P) (tys:=c.argTypes) (rt:=o.type) (qgv hrt c.args.toList) hb
    have e:(c.args.toList.map a.eval).toArray=c.args.map a.eval:=by apply Array.ext';simp
    rw [e] at this
    simpa only [cond_true,cond_false] using this
   ·refine fin (e:=Builtin.max_ c.argTypes o.type (c.args.map a.eval)) (by rw [ho];simp) (hexec _ fun _=>rfl) ?_
    have:=qlE (P:=P) (tys:=c.argTypes) (rt:=o.type) (qgv hrt c.args.toList) hb
    have e:(c.args.toList.map a.eval).toArray=c.args.map a.eval:=by apply Array.ext';simp
    rw [e] at this
    simpa only [cond_true,cond_false] using this
   ·cases hb
  ·split at hb
   ·cases hb
   ·rename_i p hp
    exact qvm hT hG hL R hs hrt (by rw [ho];exact hp) hb
 ·cases hb
end
end Go.Abs
