import Derived.Test.YtnhjpicdijeagaaDoorAbsRel
import Derived.Maps.RangeRun
import Derived.WideKeyEntry
namespace Go.Abs
open Go.RowKit
open Go.ChangeMaps (setBlock)
theorem RVs.split{w:World}{M:Nat->Prop}{h:List O}{σ:Nat->Loc}{us vs:List V}{xs:List Value}(hv:RVs w M h σ (us++vs) xs):∃ c d,xs=c++d/\RVs w M h σ us c/\RVs w M h σ vs d:=by
 induction us generalizing xs with
 | nil=>exact⟨[],xs,rfl,rfl,hv⟩
 | cons u us ih=>
  simp only [List.cons_append,RVs] at hv
  obtain⟨x,xs,rfl,h1,h2⟩:=hv
  obtain⟨c,d,rfl,h3,h4⟩:=ih h2
  exact⟨x :: c,d,rfl,⟨x,c,rfl,h1,h3⟩,h4⟩
theorem RC.one1{w:World}{M:Nat->Prop}:(s:Sh) -> {x:s.den} -> {cs:List Value}->RC w M s x cs->∀ c∈cs,c.oneCell'=true
 | .int _,_,_,h=>by simp only [RC] at h;subst h;intro c hc;simp at hc;subst hc;rfl
 | .bool,_,_,h=>by simp only [RC] at h;subst h;intro c hc;simp at hc;subst hc;rfl
 | .unit,_,_,h=>by simp only [RC] at h;subst h;intro c hc;cases hc
 | .sl _,_,_,h=>by simp only [RC] at h;obtain⟨a,cap,rfl,_⟩:=h;intro c hc;simp at hc;subst hc;rfl
 | .pair a b,_,_,h=>by
  simp only [RC] at h
  obtain⟨c,d,rfl,h1,h2⟩:=h
  intro v hv
  rcases zU.1 hv with hv | hv
  ·exact RC.one1 a h1 v hv
  ·exact RC.one1 b h2 v hv
theorem qwx{w:World}{M:Nat->Prop}{h:List O}{σ:Nat->Loc}:(s:Sh) -> {x:s.den} -> {cs:List Value}->RVs w M h σ (encL s x) cs->RC w M s x cs
 | .int k,x,cs,hv=>by
  simp only [encL,RVs,RV] at hv
  obtain⟨y,ys,rfl,rfl,rfl⟩:=hv
  rfl
 | .bool,x,cs,hv=>by
  simp only [encL,RVs,RV] at hv
  obtain⟨y,ys,rfl,rfl,rfl⟩:=hv
  rfl
 | .unit,x,cs,hv=>by
  simp only [encL,RVs] at hv
  exact hv
 | .pair a b,x,cs,hv=>by
  simp only [encL] at hv
  obtain⟨c,d,rfl,h1,h2⟩:=hv.split
  exact⟨c,d,rfl,qwx a h1,qwx b h2⟩
 | .sl s,x,cs,hv=>by
  simp only [encL,RVs,RV] at hv
  obtain⟨y,ys,rfl,h1,rfl⟩:=hv
  exact h1
def qbp:Value->Bool
 | .agg _=>true
 | _=>false
def Dat(w:World)(M:Nat->Prop)(s:Sh)(x:s.den)(v:Value):Prop:=RC w M s x v.cells.toList/\qbp v=s.isAgg
theorem qaC{v:Value}(h:qbp v=false):v.cells.toList = [v]:=by cases v <;> first | rfl | cases h
theorem qeB{w:World}{M:Nat->Prop}{h:List O}{σ:Nat->Loc}:{s:Sh} -> {x:s.den} -> {v:Value}->Dat w M s x v->RV w M h σ (enc s x) v
 | .int k,x,v,hd=>by
  have h2:=hd.1
  rw [qaC hd.2] at h2
  simp only [RC,zz,and_true] at h2
  simp only [enc,RV];exact h2
 | .bool,x,v,hd=>by
  have h2:=hd.1
  rw [qaC hd.2] at h2
  simp only [RC,zz,and_true] at h2
  simp only [enc,RV];exact h2
 | .unit,x,v,hd=>by
  have h2:=hd.2
  cases v <;> simp only [qbp,Sh.isAgg] at h2 <;> try cases h2
  rename_i us
  have h1:us.toList = []:=hd.1
  simp only [enc,RV]
  exact⟨us,rfl,(fun c hc=>by rw [h1] at hc;cases hc),by rw [h1];rfl⟩
 | .pair a b,x,v,hd=>by
  have h2:=hd.2
  cases v <;> simp only [qbp,Sh.isAgg] at h2 <;> try cases h2
  rename_i us
  have h1:RC w M (.pair a b) x us.toList:=hd.1
  simp only [enc,RV]
  exact⟨us,rfl,h1.one,qbM (.pair a b) h1⟩
 | .sl s,x,v,hd=>by
  have h2:=hd.1
  rw [qaC hd.2] at h2
  simp only [enc,RV];exact h2
theorem qxc{w:World}{M:Nat->Prop}{h:List O}{σ:Nat->Loc}:{s:Sh} -> {x:s.den} -> {v:Value}->RV w M h σ (enc s x) v->Dat w M s x v
 | .int k,x,v,hv=>by simp only [enc,RV] at hv;subst hv;exact⟨rfl,rfl⟩
 | .bool,x,v,hv=>by simp only [enc,RV] at hv;subst hv;exact⟨rfl,rfl⟩
 | .unit,x,v,hv=>by
  simp only [enc,RV,RVs] at hv
  obtain⟨us,rfl,_,h2⟩:=hv
  exact⟨h2,rfl⟩
 | .pair a b,x,v,hv=>by
  simp only [enc,RV] at hv
  obtain⟨us,rfl,_,h2⟩:=hv
  exact⟨qwx (.pair a b) h2,rfl⟩
 | .sl s,x,v,hv=>by
  simp only [enc,RV] at hv
  have hv':=hv
  simp only [RC] at hv'
  obtain⟨a,cap,h1,_⟩:=hv'
  simp only [zz,and_true] at h1
  subst h1
  exact⟨hv,rfl⟩
theorem qcv{w0:World}{A M0:Nat->Prop}{w:World}{h:List O}{σ:Nat->Loc}(R:Rep w0 A M0 w h σ){s:Sh}{v:V}{x:Value}(hv:RV w (mutb M0 h σ) h σ v x){d:s.den}(hd:decV s v=some d):Dat w (mutb M0 h σ) s d x:=by
 have hnil:Sub [] h:=fun o=>.inl (by simp [getO])
 have hall:∀ {vs:List V} {cs:List Value},RVs w (mutb M0 h σ) h σ vs cs->qea [] s vs=some d->RC w (mutb M0 h σ) s d cs:=fun hr he=>
  qcf (Mt:=mutb M0 h σ) R hnil (fun _ h=>h) hr (fun v _ o ver _ ver' e s xs hg=>by simp [getO] at hg) he
 have hone:s.isAgg=false->qea [] s [v]=some d->Dat w (mutb M0 h σ) s d x:=fun hs he=>by
  have h1:=hall (vs:=[v]) (cs:=[x]) ⟨x,[],rfl,hv,rfl⟩ he
  have hx:qbp x=false:=by
   cases s with
   | int k=>simp only [RC,zz,and_true] at h1;subst h1;rfl
   | bool=>simp only [RC,zz,and_true] at h1;subst h1;rfl
   | unit=>cases hs
   | pair a b=>cases hs
   | sl s=>
    simp only [RC] at h1
    obtain⟨a,cap,h1,_⟩:=h1
    simp only [zz,and_true] at h1
    subst h1;rfl
  exact⟨by rw [qaC hx];exact h1,by rw [hx,hs]⟩
 cases v with
 | agg vs=>
  simp only [decV] at hd
  cases hs:s.isAgg with
  | false=>rw [hs] at hd;cases hd
  | true=>
   rw [hs] at hd
   simp only [RV] at hv
   obtain⟨us,rfl,_,h2⟩:=hv
   exact⟨hall h2 hd,by rw [hs];rfl⟩
 | _=>
  simp only [decV] at hd
  cases hs:s.isAgg with
  | true=>rw [hs] at hd;cases hd
  | false=>rw [hs] at hd;exact hone hs hd
def noSl:Sh->Bool
 | .pair a b=>noSl a&&noSl b
 | .sl _=>false
 | _=>true
theorem RC.det{w w':World}{M M':Nat->Prop}:{s:Sh}->noSl s=true -> {x:s.den} -> {cs ds:List Value}->RC w M s x cs->RC w' M' s x ds->cs=ds
 | .int _,_,_,_,_,h1,h2=>by simp only [RC] at h1 h2;rw [h1,h2]
 | .bool,_,_,_,_,h1,h2=>by simp only [RC] at h1 h2;rw [h1,h2]
 | .unit,_,_,_,_,h1,h2=>by simp only [RC] at h1 h2;rw [h1,h2]
 | .pair a b,hn,_,_,_,h1,h2=>by
  simp only [noSl,zA] at hn
  simp only [RC] at h1 h2
  obtain⟨c,d,rfl,a1,b1⟩:=h1
  obtain⟨c',d',rfl,a2,b2⟩:=h2
  rw [RC.det hn.1 a1 a2,RC.det hn.2 b1 b2]
 | .sl _,hn,_,_,_,_,_=>by cases hn
theorem Dat.det{w w':World}{M M':Nat->Prop}{s:Sh}(hn:noSl s=true){x:s.den}{a b:Value}(ha:Dat w M s x a)(hb:Dat w' M' s x b):a=b:=by
 have h:=RC.det hn ha.1 hb.1
 cases hs:s.isAgg with
 | true=>
  have h1:=ha.2
  have h2:=hb.2
  rw [hs] at h1 h2
  cases a <;> simp only [qbp] at h1 <;> try cases h1
  cases b <;> simp only [qbp] at h2 <;> try cases h2
  rename_i us vs
  have:us=vs:=Array.ext' h
  rw [this]
 | false=>
  have h1:=ha.2
  have h2:=hb.2
  rw [hs] at h1 h2
  rw [qaC h1,qaC h2] at h
  simpa using h
theorem qfx:{s:Sh} -> {x y:s.den}->eqD s x y=true->x=y
 | .int _,x,y,h=>by simpa [eqD] using h
 | .bool,x,y,h=>by simpa [eqD] using h
 | .unit,x,y,_=>rfl
 | .pair a b,x,y,h=>by
  simp only [eqD,zA] at h
  exact Prod.ext (qfx h.1) (qfx h.2)
 | .sl _,x,y,h=>by cases h
theorem qhe:{s:Sh}->noSl s=true->(x:s.den)->eqD s x x=true
 | .int _,_,x=>by simp [eqD]
 | .bool,_,x=>by simp [eqD]
 | .unit,_,x=>rfl
 | .pair a b,hn,x=>by
  simp only [noSl,zA] at hn
  simp only [eqD,qhe hn.1,qhe hn.2,Bool.and_self]
 | .sl _,hn,_=>by cases hn
section
variable {P : Program}
theorem qbQ{t:TypeId}{s:Sh}(h:qeb P t s=true):P.plainKey t=true:=by
 unfold qeb at h
 unfold Program.plainKey
 cases s <;> simp only [zAC] at h
 ·split at h
  ·rename_i q hq;rw [hq]
  ·cases h
 ·split at h
  ·rename_i hq;rw [hq]
  ·cases h
theorem qvy{t:TypeId}{s:Sh}(h:qeb P t s=true):s.n=1/\noSl s=true/\s.isAgg=false:=by
 cases s <;> simp [qeb] at h <;> exact⟨rfl,rfl,rfl⟩
theorem qcw{w:World}{M:Nat->Prop}{t:TypeId}{s:Sh}(h:qeb P t s=true){x:s.den}{cs:List Value}(hr:RC w M s x cs):∃ v,cs = [v]/\qbp v=false:=by
 cases s <;> simp [qeb] at h
 ·simp only [RC] at hr;exact⟨_,hr,rfl⟩
 ·simp only [RC] at hr;exact⟨_,hr,rfl⟩
theorem qfQ{w w1 w2:World}{M M':Nat->Prop}{t:TypeId}{s:Sh}(h:qeb P t s=true){x y:s.den}{a b:Value}(ha:RC w1 M s x [a])(hb:RC w2 M' s y [b])(d:Nat):(Op.equalIn (d+1) t a b).run P w=.ok (eqD s x y) w:=by
 cases s <;> simp only [qeb,zAC] at h
 ·split at h
  ·rename_i q' hq
   simp only [zQ] at h
   subst h
   simp only [RC,zz,and_true] at ha hb
   subst ha;subst hb
   exact run_equalIn_int w d t _ _ _ _ hq
  ·cases h
 ·split at h
  ·rename_i hq
   simp only [RC,zz,and_true] at ha hb
   subst ha;subst hb
   exact Go.run_equalIn_bool w d t _ _ hq
  ·cases h
theorem qfR{w:World}{t:TypeId}{s:Sh}(h:qeb P t s=true){v:Value}(em:Bool)(n:Nat)(hv:qbp v=false):(Instr.checkKey em (n+1) t v).run P w=.ok () w:=by
 cases s <;> simp only [qeb,zAC] at h
 ·split at h
  ·rename_i q' hq
   simp [Instr.checkKey,run_underlying hq]
  ·cases h
 ·split at h
  ·rename_i hq
   simp [Instr.checkKey,run_underlying hq]
  ·cases h
theorem qAx{fs:List Field}:{s:Sh} -> {off:Nat}->qfw P fs s off=true->noSl s=true:=by
 induction fs with
 | nil=>intro s off h;simp [qfw] at h;subst h;rfl
 | cons f r ih=>
  intro s off h
  cases r with
  | nil=>
   simp only [qfw,zA] at h
   exact (qvy h.2.2).2.1
  | cons g r=>
   cases s with
   | pair a b=>
    simp only [qfw,zA] at h
    simp only [noSl,(qvy h.2.2.1).2.1,ih h.2.2.2,Bool.and_self]
   | _=>simp [qfw] at h
theorem qeJ{xs:Array Value}{pre cs:List Value}{v:Value}{post:List Value}{off:Nat}(hx:xs.toList=pre++cs)(hl:pre.length=off)(hc:cs=v :: post):xs[off]? = some v:=by
 subst hc;subst hl
 rw [<- zp,hx]
 simp
theorem qrL{w w1 w2:World}{M M':Nat->Prop}(d:Nat)(xs ys:Array Value):(fs:List Field)->(s:Sh)->(off:Nat)->qfw P fs s off=true->(x y:s.den)->(cs ds px py:List Value)->RC w1 M s x cs->RC w2 M' s y ds ->
  xs.toList=px++cs->ys.toList=py++ds->px.length=off->py.length=off->(Op.eqFields (d+1) xs ys fs).run P w=.ok (eqD s x y) w
 | [],s,off,h,x,y,cs,ds,px,py,hx,hy,ex,ey,lx,ly=>by
  simp [qfw] at h;subst h
  simp [Op.eqFields,eqD]
 | [f],s,off,h,x,y,cs,ds,px,py,hx,hy,ex,ey,lx,ly=>by
  simp only [qfw,zA,zBF,ne_eq] at h
  obtain⟨h1,h2,h3⟩:=h
  have h1:=zB h1
  obtain⟨a,rfl,-⟩:=qcw h3 hx
  obtain⟨b,rfl,-⟩:=qcw h3 hy
  simp only [Op.eqFields,h2,ne_eq,not_false_eq_true,if_true,Sem.run_bind,h1,run_part_plain w (qbQ h3) (qeJ ex lx rfl),run_part_plain w (qbQ h3) (qeJ ey ly rfl),Result.andThen_ok,qfQ h3 hx hy]
  cases eqD s x y <;> simp [Op.eqFields]
 | f :: g :: r,s,off,h,x,y,cs,ds,px,py,hx,hy,ex,ey,lx,ly=>by
  cases s with
  | pair a b=>
   simp only [qfw,zA,zBF,ne_eq] at h
   obtain⟨h1,h2,h3,h4⟩:=h
   have h1:=zB h1
   simp only [RC] at hx hy
   obtain⟨c,c',rfl,hx1,hx2⟩:=hx
   obtain⟨e,e',rfl,hy1,hy2⟩:=hy
   obtain⟨u,rfl,-⟩:=qcw h3 hx1
   obtain⟨v,rfl,-⟩:=qcw h3 hy1
   have ih:=qrL (w:=w) d xs ys (g :: r) b (off+1) h4 x.2 y.2 c' e' (px ++ [u]) (py ++ [v]) hx2 hy2 (by rw [ex];simp) (by rw [ey];simp) (by simp [lx]) (by simp [ly])
   simp only [Op.eqFields,h2,ne_eq,not_false_eq_true,if_true,Sem.run_bind,h1,run_part_plain w (qbQ h3) (qeJ ex lx rfl),run_part_plain w (qbQ h3) (qeJ ey ly rfl),Result.andThen_ok,qfQ h3 hx1 hy1]
   simp only [eqD]
   cases eqD a x.1 y.1 with
   | false=>simp
   | true=>
    simp only [Bool.not_true,zAC,if_false,Bool.true_and]
    simpa only [Op.eqFields] using ih
  | _=>simp [qfw] at h
theorem qrM{w w1:World}{M:Nat->Prop}(em:Bool)(n:Nat)(xs:Array Value):(fs:List Field)->(s:Sh)->(off:Nat)->qfw P fs s off=true->(x:s.den)->(cs px:List Value)->RC w1 M s x cs->xs.toList=px++cs->px.length=off ->
  ((forIn fs PUnit.unit fun f _=>do
   if f.name ≠ "_" then
    let v <- part f.type xs f.offset
    Instr.checkKey em (n+1) f.type v
    pure (ForInStep.yield PUnit.unit)
   else pure (ForInStep.yield PUnit.unit):Sem PUnit)).run P w=.ok PUnit.unit w
 | [],s,off,h,x,cs,px,hx,ex,lx=>by simp
 | [f],s,off,h,x,cs,px,hx,ex,lx=>by
  simp only [qfw,zA,zBF,ne_eq] at h
  obtain⟨h1,h2,h3⟩:=h
  have h1:=zB h1
  obtain⟨a,rfl,hna⟩:=qcw h3 hx
  simp only [List.forIn_cons,zCU,h2,ne_eq,not_false_eq_true,if_true,Sem.run_bind,h1,run_part_plain w (qbQ h3) (qeJ ex lx rfl),Result.andThen_ok,qfR h3 em n hna,Sem.run_pure]
 | f :: g :: r,s,off,h,x,cs,px,hx,ex,lx=>by
  cases s with
  | pair a b=>
   simp only [qfw,zA,zBF,ne_eq] at h
   obtain⟨h1,h2,h3,h4⟩:=h
   have h1:=zB h1
   simp only [RC] at hx
   obtain⟨c,c',rfl,hx1,hx2⟩:=hx
   obtain⟨u,rfl,hna⟩:=qcw h3 hx1
   have ih:=qrM (w:=w) em n xs (g :: r) b (off+1) h4 x.2 c' (px ++ [u]) hx2 (by rw [ex];simp) (by simp [lx])
   rw [List.forIn_cons]
   simp only [h2,ne_eq,not_false_eq_true,if_true,Sem.run_bind,h1,run_part_plain w (qbQ h3) (qeJ ex lx rfl),Result.andThen_ok,qfR h3 em n hna,Sem.run_pure]
   exact ih
  | _=>simp [qfw] at h
theorem qhL{w w1:World}{M:Nat->Prop}{n:Nat}{t:TypeId}{s:Sh}(h:qdB P n t s=true){xs:Array Value}{off:Nat}{x:s.den}{cs px post:List Value}(hr:RC w1 M s x cs)(hx:xs.toList=px++(cs++post))(hl:px.length=off) :
  ∃ v,(part t xs off).run P w=.ok v w/\Dat w1 M s x v:=by
 cases n with
 | zero=>simp [qdB] at h
 | succ n=>
  unfold qdB at h
  split at h
  ·rename_i fs hu
   simp only [zA,zT] at h
   obtain⟨h1,h2,h3,h4⟩:=h
   have h3:=zB h3
   obtain⟨i,hi⟩:=info_of_underlying hu
   refine⟨.agg (xs.extract off (off+P.cellsOf t)),by simp [part,isAgg,run_underlying hu,run_sizeOf w hi],?_,h1.symm⟩
   have e:(xs.extract off (off+P.cellsOf t)).toList=cs:=by
    subst hl
    rw [zBA,hx,h3,<- hr.length]
    simp [List.extract]
   show RC w1 M s x (xs.extract off (off+P.cellsOf t)).toList
   rw [e];exact hr
  ·rename_i m e hu
   split at h
   case h_2=>cases h
   rename_i a b
   simp only [zA] at h
   obtain⟨h1,h2,h3,h4,h5⟩:=h
   have h4:=zB h4
   obtain⟨i,hi⟩:=info_of_underlying hu
   refine⟨.agg (xs.extract off (off+P.cellsOf t)),by simp [part,isAgg,run_underlying hu,run_sizeOf w hi],?_,rfl⟩
   have e:(xs.extract off (off+P.cellsOf t)).toList=cs:=by
    subst hl
    rw [zBA,hx,h4,<- hr.length]
    simp [List.extract]
   show RC w1 M (.pair a b) x (xs.extract off (off+P.cellsOf t)).toList
   rw [e];exact hr
  ·simp only [zA,zT] at h
   obtain⟨v,rfl,hv⟩:=qcw h.2 hr
   exact⟨v,run_part_plain w (qbQ h.2) (qeJ hx hl rfl),by rw [qaC hv];exact hr,by rw [hv,h.1]⟩
theorem qpW{w w1 w2:World}{M M':Nat->Prop}{n:Nat}(dd:Nat)(IH:∀ t s,qdB P n t s=true->∀ (x y:s.den) (a b:Value),Dat w1 M s x a->Dat w2 M' s y b->(Op.equalIn dd t a b).run P w=.ok (eqD s x y) w)(xs ys:Array Value) :
  (fs:List Field)->(s:Sh)->(off:Nat)->qcp (qdB P n) fs s off=true->(x y:s.den)->(cs ds px py:List Value)->RC w1 M s x cs->RC w2 M' s y ds ->
  xs.toList=px++cs->ys.toList=py++ds->px.length=off->py.length=off->(Op.eqFields dd xs ys fs).run P w=.ok (eqD s x y) w
 | [],s,off,h,x,y,cs,ds,px,py,hx,hy,ex,ey,lx,ly=>by
  simp [qcp] at h;subst h
  simp [Op.eqFields,eqD]
 | [f],s,off,h,x,y,cs,ds,px,py,hx,hy,ex,ey,lx,ly=>by
  simp only [qcp,zA,zBF,ne_eq] at h
  obtain⟨h1,h2,h3⟩:=h
  have h1:=zB h1
  obtain⟨a,pa,da⟩:=qhL (w:=w) (xs:=xs) h3 (post:=[]) hx (by rw [List.append_nil];exact ex) lx
  obtain⟨b,pb,db⟩:=qhL (w:=w) (xs:=ys) h3 (post:=[]) hy (by rw [List.append_nil];exact ey) ly
  simp only [Op.eqFields,h2,ne_eq,not_false_eq_true,if_true,Sem.run_bind,h1,pa,pb,Result.andThen_ok,IH _ _ h3 x y a b da db]
  cases eqD s x y <;> simp [Op.eqFields]
 | f :: g :: r,s,off,h,x,y,cs,ds,px,py,hx,hy,ex,ey,lx,ly=>by
  cases s with
  | pair a b=>
   simp only [qcp,zA,zBF,ne_eq] at h
   obtain⟨h1,h2,h3,h4⟩:=h
   have h1:=zB h1
   simp only [RC] at hx hy
   obtain⟨c,c',rfl,hx1,hx2⟩:=hx
   obtain⟨e,e',rfl,hy1,hy2⟩:=hy
   obtain⟨u,pu,du⟩:=qhL (w:=w) h3 hx1 ex lx
   obtain⟨v,pv,dv⟩:=qhL (w:=w) h3 hy1 ey ly
   have ih:=qpW (w:=w) dd IH xs ys (g :: r) b (off+a.n) h4 x.2 y.2 c' e' (px++c) (py++e) hx2 hy2 (by rw [ex];simp) (by rw [ey];simp) (by simp [lx,hx1.length]) (by simp [ly,hy1.length])
   simp only [Op.eqFields,h2,ne_eq,not_false_eq_true,if_true,Sem.run_bind,h1,pu,pv,Result.andThen_ok,IH _ _ h3 x.1 y.1 u v du dv]
   simp only [eqD]
   cases eqD a x.1 y.1 with
   | false=>simp
   | true=>
    simp only [Bool.not_true,zAC,if_false,Bool.true_and]
    simpa only [Op.eqFields] using ih
  | _=>simp [qcp] at h
theorem qpK{w w1 w2:World}{M M':Nat->Prop}(dd:Nat){e:TypeId}{a:Sh}(h:qeb P e a=true)(xs ys:Array Value) :
  (m:Nat)->(i:Nat)->(x y:(arrSh m a).den)->(cs ds px py:List Value)->RC w1 M (arrSh m a) x cs->RC w2 M' (arrSh m a) y ds ->
  xs.toList=px++cs->ys.toList=py++ds->px.length=i->py.length=i->(Op.eqItems (dd+1) e 1 xs ys (List.range' i m)).run P w=.ok (eqD (arrSh m a) x y) w
 | 0,i,x,y,cs,ds,px,py,hx,hy,ex,ey,lx,ly=>by simp [Op.eqItems,arrSh,eqD]
 | 1,i,x,y,cs,ds,px,py,hx,hy,ex,ey,lx,ly=>by
  obtain⟨u,rfl,-⟩:=qcw h hx
  obtain⟨v,rfl,-⟩:=qcw h hy
  have p1:=run_part_plain w (qbQ h) (qeJ ex lx rfl)
  have p2:=run_part_plain w (qbQ h) (qeJ ey ly rfl)
  simp only [List.range'_succ,List.range'_zero,Op.eqItems,Nat.mul_one,Sem.run_bind,p1,p2,Result.andThen_ok,qfQ h hx hy,arrSh]
  cases eqD a x y <;> simp [Op.eqItems]
 | m+2,i,x,y,cs,ds,px,py,hx,hy,ex,ey,lx,ly=>by
  simp only [arrSh,RC] at hx hy
  obtain⟨c,c',rfl,hx1,hx2⟩:=hx
  obtain⟨d,d',rfl,hy1,hy2⟩:=hy
  obtain⟨u,rfl,-⟩:=qcw h hx1
  obtain⟨v,rfl,-⟩:=qcw h hy1
  have p1:=run_part_plain w (qbQ h) (qeJ ex lx rfl)
  have p2:=run_part_plain w (qbQ h) (qeJ ey ly rfl)
  have ih:=qpK (w:=w) dd h xs ys (m+1) (i+1) x.2 y.2 c' d' (px ++ [u]) (py ++ [v]) hx2 hy2 (by rw [ex];simp) (by rw [ey];simp) (by simp [lx]) (by simp [ly])
  rw [List.range'_succ]
  simp only [Op.eqItems,Nat.mul_one,Sem.run_bind,p1,p2,Result.andThen_ok,qfQ h hx1 hy1]
  simp only [arrSh,eqD]
  cases eqD a x.1 y.1 with
  | false=>simp
  | true=>
   simp only [Bool.not_true,zAC,if_false,Bool.true_and]
   exact ih
theorem qng{w w1 w2:World}{M M':Nat->Prop}:(n:Nat)->(d:Nat)->∀ t s,qdB P n t s=true->∀ (x y:s.den) (a b:Value),Dat w1 M s x a->Dat w2 M' s y b->(Op.equalIn (d+1+n) t a b).run P w=.ok (eqD s x y) w
 | 0,d,t,s,h,_,_,_,_,_,_=>by simp [qdB] at h
 | n+1,d,t,s,hk,x,y,a,b,ha,hb=>by
  unfold qdB at hk
  split at hk
  ·rename_i fs hu
   simp only [zA,zT] at hk
   obtain⟨h1,h2,-,h3⟩:=hk
   have ha2:=ha.2
   have hb2:=hb.2
   rw [h1] at ha2 hb2
   cases a <;> simp only [qbp] at ha2 <;> try cases ha2
   cases b <;> simp only [qbp] at hb2 <;> try cases hb2
   rename_i us vs
   have hfs:P.fieldsOf t=fs:=by simp [Program.fieldsOf,hu]
   show (Op.equalIn ((d+1+n)+1) t (.agg us) (.agg vs)).run P w=_
   rw [run_equalIn_struct w (d+1+n) t us vs (by rw [hfs];exact hu) h2,hfs]
   exact qpW (d+1+n) (fun t s h=>qng n d t s h) us vs fs.toList s 0 h3 x y _ _ [] [] ha.1 hb.1 rfl rfl rfl rfl
  ·rename_i m e hu
   split at hk
   case h_2=>cases hk
   rename_i a1 b1
   simp only [zA,zQ] at hk
   obtain⟨h1,h2,h3,-,h5⟩:=hk
   have h5:=zB h5
   have ha2:=ha.2
   have hb2:=hb.2
   cases a <;> simp only [qbp,Sh.isAgg] at ha2 <;> try cases ha2
   cases b <;> simp only [qbp,Sh.isAgg] at hb2 <;> try cases hb2
   rename_i us vs
   have hpe:∃ i,P.info? e=some i:=by
    unfold qeb at h3
    cases hue:P.underlying e with
    | none=>rw [hue] at h3;cases a1 <;> cases h3
    | some _=>exact info_of_underlying hue
   obtain⟨i,hi⟩:=hpe
   show (Op.equalIn ((d+1+n)+1) t (.agg us) (.agg vs)).run P w=_
   rw [run_equalIn_array w (d+1+n) us vs hu hi,h5,List.range_eq_range']
   have key:=fun (s':Sh) (e':s'=arrSh m a1) (x y:s'.den) (h1:RC w1 M s' x us.toList) (h2:RC w2 M' s' y vs.toList)=>show (Op.eqItems ((d+n)+1) e 1 us vs (List.range' 0 m)).run P w=.ok (eqD s' x y) w by
    subst e'
    exact qpK (d+n) h3 us vs m 0 x y _ _ [] [] h1 h2 rfl rfl rfl rfl
   have:=key _ h2 x y ha.1 hb.1
   rw [show d+n+1=d+1+n by omega] at this
   exact this
  ·simp only [zA,zT] at hk
   have ha1:=ha.1
   have hb1:=hb.1
   rw [qaC (by rw [ha.2];exact hk.1)] at ha1
   rw [qaC (by rw [hb.2];exact hk.1)] at hb1
   exact qfQ hk.2 ha1 hb1 (d+1+n)
variable {t : TypeId} {k : Sh}
theorem qxX{a:Sh}(h:noSl a=true):(m:Nat)->noSl (arrSh m a)=true
 | 0=>rfl
 | 1=>h
 | m+2=>by simp only [arrSh,noSl,h,qxX h (m+1),Bool.and_self]
theorem qpV{g:TypeId->Sh->Bool}(hg:∀ t s,g t s=true->noSl s=true):(fs:List Field)->(s:Sh)->(off:Nat)->qcp g fs s off=true->noSl s=true
 | [],s,off,h=>by simp [qcp] at h;subst h;rfl
 | [f],s,off,h=>by
  simp only [qcp,zA] at h
  exact hg _ _ h.2.2
 | f :: g' :: r,s,off,h=>by
  cases s with
  | pair a b=>
   simp only [qcp,zA] at h
   simp only [noSl,hg _ _ h.2.2.1,qpV hg (g' :: r) b _ h.2.2.2,Bool.and_self]
  | _=>simp [qcp] at h
theorem qvd:(n:Nat)->∀ t s,qdB P n t s=true->noSl s=true
 | 0,_,_,h=>by simp [qdB] at h
 | n+1,t,s,h=>by
  unfold qdB at h
  split at h
  ·simp only [zA] at h
   exact qpV (qvd n) _ _ _ h.2.2.2
  ·split at h
   ·simp only [zA,zQ] at h
    rw [h.2.1]
    exact qxX (qvy h.2.2.1).2.1 _
   ·cases h
  ·simp only [zA] at h;exact (qvy h.2).2.1
theorem qpL{w w1:World}{M:Nat->Prop}(em:Bool)(dd:Nat){e:TypeId}{a:Sh}(h:qeb P e a=true)(hs:(sizeOf e).run P w=.ok 1 w)(xs:Array Value) :
  (m:Nat)->(i:Nat)->(x:(arrSh m a).den)->(cs px:List Value)->RC w1 M (arrSh m a) x cs->xs.toList=px++cs->px.length=i ->
  ((forIn (List.range' i m) PUnit.unit fun j _=>do
   let n <- sizeOf e
   let v <- part e xs (j*n)
   Instr.checkKey em (dd+1) e v
   pure (ForInStep.yield PUnit.unit):Sem PUnit)).run P w=.ok PUnit.unit w
 | 0,i,x,cs,px,hx,ex,lx=>by simp
 | 1,i,x,cs,px,hx,ex,lx=>by
  obtain⟨u,rfl,hu⟩:=qcw h hx
  have p1:=run_part_plain w (qbQ h) (qeJ ex lx rfl)
  simp only [List.range'_succ,List.range'_zero,List.forIn_cons,zCU,Sem.run_bind,hs,Result.andThen_ok,Nat.mul_one,p1,qfR h em dd hu,Sem.run_pure]
 | m+2,i,x,cs,px,hx,ex,lx=>by
  simp only [arrSh,RC] at hx
  obtain⟨c,c',rfl,hx1,hx2⟩:=hx
  obtain⟨u,rfl,hu⟩:=qcw h hx1
  have p1:=run_part_plain w (qbQ h) (qeJ ex lx rfl)
  have ih:=qpL (w:=w) em dd h hs xs (m+1) (i+1) x.2 c' (px ++ [u]) hx2 (by rw [ex];simp) (by simp [lx])
  rw [List.range'_succ,List.forIn_cons]
  simp only [Sem.run_bind,hs,Result.andThen_ok,Nat.mul_one,p1,qfR h em dd hu,Sem.run_pure]
  exact ih
theorem qnU{w w1:World}{M:Nat->Prop}{n:Nat}(em:Bool)(dd:Nat)(IH:∀ t s,qdB P n t s=true->∀ (x:s.den) (a:Value),Dat w1 M s x a->(Instr.checkKey em dd t a).run P w=.ok () w)(xs:Array Value):(fs:List Field)->(s:Sh)->(off:Nat)->qcp (qdB P n) fs s off=true->(x:s.den)->(cs px:List Value)->RC w1 M s x cs->xs.toList=px++cs->px.length=off ->
  ((forIn fs PUnit.unit fun f _=>do
   if f.name ≠ "_" then
    let v <- part f.type xs f.offset
    Instr.checkKey em dd f.type v
    pure (ForInStep.yield PUnit.unit)
   else pure (ForInStep.yield PUnit.unit):Sem PUnit)).run P w=.ok PUnit.unit w
 | [],s,off,h,x,cs,px,hx,ex,lx=>by simp
 | [f],s,off,h,x,cs,px,hx,ex,lx=>by
  simp only [qcp,zA,zBF,ne_eq] at h
  obtain⟨h1,h2,h3⟩:=h
  have h1:=zB h1
  obtain⟨a,pa,da⟩:=qhL (w:=w) (xs:=xs) h3 (post:=[]) hx (by rw [List.append_nil];exact ex) lx
  simp only [List.forIn_cons,zCU,h2,ne_eq,not_false_eq_true,if_true,Sem.run_bind,h1,pa,Result.andThen_ok,IH _ _ h3 x a da,Sem.run_pure]
 | f :: g :: r,s,off,h,x,cs,px,hx,ex,lx=>by
  cases s with
  | pair a b=>
   simp only [qcp,zA,zBF,ne_eq] at h
   obtain⟨h1,h2,h3,h4⟩:=h
   have h1:=zB h1
   simp only [RC] at hx
   obtain⟨c,c',rfl,hx1,hx2⟩:=hx
   obtain⟨u,pu,du⟩:=qhL (w:=w) h3 hx1 ex lx
   have ih:=qnU em dd IH xs (g :: r) b (off+a.n) h4 x.2 c' (px++c) hx2 (by rw [ex];simp) (by simp [lx,hx1.length])
   rw [List.forIn_cons]
   simp only [h2,ne_eq,not_false_eq_true,if_true,Sem.run_bind,h1,pu,Result.andThen_ok,IH _ _ h3 x.1 u du,Sem.run_pure]
   exact ih
  | _=>simp [qcp] at h
theorem qrT{w w1:World}{M:Nat->Prop}(em:Bool):(n:Nat)->(d:Nat)->∀ t s,qdB P n t s=true->∀ (x:s.den) (a:Value),Dat w1 M s x a->(Instr.checkKey em (d+1+n) t a).run P w=.ok () w
 | 0,d,t,s,h,_,_,_=>by simp [qdB] at h
 | n+1,d,t,s,hk,x,a,ha=>by
  unfold qdB at hk
  split at hk
  ·rename_i fs hu
   simp only [zA,zT] at hk
   obtain⟨h1,h2,-,h3⟩:=hk
   have ha2:=ha.2
   rw [h1] at ha2
   cases a <;> simp only [qbp] at ha2 <;> try cases ha2
   rename_i us
   show (Instr.checkKey em ((d+1+n)+1) t (.agg us)).run P w=_
   rw [Instr.checkKey]
   simp only [Sem.run_bind,run_underlying hu,Result.andThen_ok]
   rw [<- Array.forIn_toList]
   have hf:=qnU (w:=w) em (d+1+n) (fun t s h=>qrT em n d t s h) us fs.toList s 0 h3 x _ [] ha.1 rfl rfl
   rw [hf];rfl
  ·rename_i m e hu
   split at hk
   case h_2=>cases hk
   rename_i a1 b1
   simp only [zA,zQ] at hk
   obtain⟨h1,h2,h3,-,h5⟩:=hk
   have h5:=zB h5
   have ha2:=ha.2
   cases a <;> simp only [qbp,Sh.isAgg] at ha2 <;> try cases ha2
   rename_i us
   have hpe:∃ i,P.info? e=some i:=by
    unfold qeb at h3
    cases hue:P.underlying e with
    | none=>rw [hue] at h3;cases a1 <;> cases h3
    | some _=>exact info_of_underlying hue
   obtain⟨i,hi⟩:=hpe
   have hsz:(sizeOf e).run P w=.ok 1 w:=by rw [run_sizeOf w hi,h5]
   show (Instr.checkKey em ((d+1+n)+1) t (.agg us)).run P w=_
   rw [Instr.checkKey]
   simp only [Sem.run_bind,run_underlying hu,Result.andThen_ok]
   simp only [Std.Legacy.Range.forIn_eq_forIn_range',Std.Legacy.Range.size,Nat.sub_zero,Nat.add_one_sub_one,Nat.div_one]
   have key:=fun (s':Sh) (e':s'=arrSh m a1) (x:s'.den) (h1:RC w1 M s' x us.toList)=>show _ from by
    subst e'
    exact qpL (w:=w) em (d+n) h3 hsz us m 0 x _ [] h1 rfl rfl
   have hf:=key _ h2 x ha.1
   rw [show d+n+1=d+1+n by omega] at hf
   rw [hf];rfl
  ·simp only [zA,zT] at hk
   rw [show d+1+(n+1)=(d+1+n)+1 from rfl]
   exact qfR hk.2 em (d+1+n) (by rw [ha.2];exact hk.1)
theorem qha(hk:keyOk P t k=true):noSl k=true:=by
 unfold keyOk at hk
 split at hk
 ·simp only [zA,zx] at hk
  rcases hk.2.2 with h | h
  ·exact qAx h
  ·exact qvd _ _ _ h
 ·simp only [zA] at hk;exact (qvy hk.2).2.1
theorem qpI{w w1 w2:World}{M M':Nat->Prop}(hk:keyOk P t k=true){x y:k.den}{a b:Value}(ha:Dat w1 M k x a)(hb:Dat w2 M' k y b):(Op.equal t a b).run P w=.ok (eqD k x y) w:=by
 unfold keyOk at hk
 split at hk
 ·rename_i fs hu
  simp only [zA,zT,zx] at hk
  obtain⟨h1,h2,h3⟩:=hk
  rcases h3 with h3 | h3
  case inr=>exact qng 4 9995 t k h3 x y a b ha hb
  have ha2:=ha.2
  have hb2:=hb.2
  rw [h1] at ha2 hb2
  cases a <;> simp only [qbp] at ha2 <;> try cases ha2
  cases b <;> simp only [qbp] at hb2 <;> try cases hb2
  rename_i us vs
  have hfs:P.fieldsOf t=fs:=by simp [Program.fieldsOf,hu]
  show (Op.equalIn (9999+1) t (.agg us) (.agg vs)).run P w=_
  rw [run_equalIn_struct w 9999 t us vs (by rw [hfs];exact hu) h2,hfs]
  exact qrL 9998 us vs fs.toList k 0 h3 x y _ _ [] [] ha.1 hb.1 rfl rfl rfl rfl
 ·simp only [zA,zT] at hk
  have ha1:=ha.1
  have hb1:=hb.1
  rw [qaC (by rw [ha.2];exact hk.1)] at ha1
  rw [qaC (by rw [hb.2];exact hk.1)] at hb1
  exact qfQ hk.2 ha1 hb1 9999
theorem qbg{w w1:World}{M:Nat->Prop}(hk:keyOk P t k=true){x:k.den}{a:Value}(ha:Dat w1 M k x a)(em:Bool):(Instr.checkKey em 10000 t a).run P w=.ok () w:=by
 unfold keyOk at hk
 split at hk
 ·rename_i fs hu
  simp only [zA,zT,zx] at hk
  obtain⟨h1,h2,h3⟩:=hk
  rcases h3 with h3 | h3
  case inr=>exact qrT em 4 9995 t k h3 x a ha
  have ha2:=ha.2
  rw [h1] at ha2
  cases a <;> simp only [qbp] at ha2 <;> try cases ha2
  rename_i us
  show (Instr.checkKey em (9999+1) t (.agg us)).run P w=_
  rw [Instr.checkKey]
  simp only [Sem.run_bind,run_underlying hu,Result.andThen_ok]
  rw [<- Array.forIn_toList]
  have hf:=qrM (w:=w) em 9998 us fs.toList k 0 h3 x _ [] ha.1 rfl rfl
  simp only [show (9998+1:Nat)=9999 from rfl] at hf
  rw [hf];rfl
 ·simp only [zA,zT] at hk
  exact qfR hk.2 em 9999 (by rw [ha.2];exact hk.1)
theorem qmg{w:World}{M:Nat->Prop}(n:Nat):{s:Sh}->noSl s=true -> {x:s.den} -> {cs:List Value}->RC w M s x cs->∀ c∈cs,Instr.sameBits n c c=true
 | .int _,_,_,_,h,c,hc=>by simp only [RC] at h;subst h;simp at hc;subst hc;simp [Instr.sameBits]
 | .bool,_,_,_,h,c,hc=>by simp only [RC] at h;subst h;simp at hc;subst hc;simp [Instr.sameBits]
 | .unit,_,_,_,h,c,hc=>by simp only [RC] at h;subst h;cases hc
 | .pair a b,hn,_,_,h,c,hc=>by
  simp only [noSl,zA] at hn
  simp only [RC] at h
  obtain⟨d,e,rfl,h1,h2⟩:=h
  rcases zU.1 hc with hc | hc
  ·exact qmg n hn.1 h1 c hc
  ·exact qmg n hn.2 h2 c hc
 | .sl _,hn,_,_,_,_,_=>by cases hn
theorem qlK{w w1:World}{M:Nat->Prop}(hn:noSl k=true){x:k.den}{a:Value}(ha:Dat w1 M k x a):(Instr.keyThatStays a a).run P w=.ok a w:=by
 have hs:Instr.sameBits 10000 a a=true:=by
  cases hq:qbp a with
  | true=>
   cases a <;> simp only [qbp] at hq <;> try cases hq
   rename_i us
   show Instr.sameBits (9999+1) (.agg us) (.agg us)=true
   simp only [Instr.sameBits,zAZ,Bool.true_and,zm]
   intro p hp
   obtain⟨i,hi,e⟩:=zAs hp
   rw [List.getElem_zip] at e
   rw [<- e]
   exact qmg 9999 hn ha.1 _ (zAu _)
  | false=>exact qmg 10000 hn ha.1 a (by rw [qaC hq];simp)
 simp [Instr.keyThatStays,hs]
section
variable {w : World} {M : Nat -> Prop} {v : Sh}
theorem ME.kD{x:Int×(k.den×v.den)}{e:MapEntry}(h:ME w M k v x e):Dat w M k x.2.1 e.key:=qxc h.key
theorem ME.vD{x:Int×(k.den×v.den)}{e:MapEntry}(h:ME w M k v x e):Dat w M v x.2.2 e.val:=qxc h.val
theorem MEs.length{xs:Ents k v}{es:List MapEntry}(h:MEs w M k v xs es):xs.length=es.length:=by
 induction xs generalizing es with
 | nil=>simp only [MEs] at h;subst h;rfl
 | cons x xs ih=>obtain⟨e,r,rfl,_,h2⟩:=h;simp [ih h2]
theorem MEs.get{xs:Ents k v}{es:List MapEntry}(h:MEs w M k v xs es){j:Nat}{x:Int×(k.den×v.den)}(hj:xs[j]? = some x):∃ e,es[j]? = some e/\ME w M k v x e:=by
 induction xs generalizing es j with
 | nil=>simp at hj
 | cons y xs ih=>
  obtain⟨e,r,rfl,h1,h2⟩:=h
  cases j with
  | zero=>simp at hj;subst hj;exact⟨e,rfl,h1⟩
  | succ j=>simp at hj;simpa using ih h2 hj
theorem MEs.get'{xs:Ents k v}{es:List MapEntry}(h:MEs w M k v xs es){j:Nat}{e:MapEntry}(hj:es[j]? = some e):∃ x,xs[j]? = some x/\ME w M k v x e:=by
 induction xs generalizing es j with
 | nil=>simp only [MEs] at h;subst h;simp at hj
 | cons y xs ih=>
  obtain⟨e,r,rfl,h1,h2⟩:=h
  cases j with
  | zero=>simp at hj;subst hj;exact⟨y,rfl,h1⟩
  | succ j=>simp at hj;simpa using ih h2 hj
theorem MEs.append{xs ys:Ents k v}{es fs:List MapEntry}(h:MEs w M k v xs es)(h':MEs w M k v ys fs):MEs w M k v (xs++ys) (es++fs):=by
 induction xs generalizing es with
 | nil=>simp only [MEs] at h;subst h;exact h'
 | cons x xs ih=>
  obtain⟨e,r,rfl,h1,h2⟩:=h
  exact⟨e,r++fs,rfl,h1,ih h2⟩
theorem MEs.set{xs:Ents k v}{es:List MapEntry}(h:MEs w M k v xs es)(j:Nat){x:Int×(k.den×v.den)}{e:MapEntry}(he:ME w M k v x e):MEs w M k v (xs.set j x) (es.set j e):=by
 induction xs generalizing es j with
 | nil=>simp only [MEs] at h;subst h;exact rfl
 | cons y xs ih=>
  obtain⟨e',r,rfl,h1,h2⟩:=h
  cases j with
  | zero=>exact⟨e,r,rfl,he,h2⟩
  | succ j=>exact⟨e',r.set j e,rfl,h1,ih h2 j⟩
theorem MEs.erase{xs:Ents k v}{es:List MapEntry}(h:MEs w M k v xs es)(j:Nat):MEs w M k v (xs.eraseIdx j) (es.eraseIdx j):=by
 induction xs generalizing es j with
 | nil=>simp only [MEs] at h;subst h;exact rfl
 | cons y xs ih=>
  obtain⟨e',r,rfl,h1,h2⟩:=h
  cases j with
  | zero=>exact h2
  | succ j=>exact⟨e',r.eraseIdx j,rfl,h1,ih h2 j⟩
structure At1 (k v:Sh) (x:k.den) (xs:Ents k v) (j:Nat) (y:Int×(k.den×v.den)):Prop where
 here:xs[j]? = some y
 eq:eqD k x y.2.1=true
 ahead:∀ i z,i<j->xs[i]? = some z->eqD k x z.2.1=false
theorem At1.ent{x:k.den}{xs:Ents k v}{j:Nat}{y:Int×(k.den×v.den)}(h:At1 k v x xs j y):entOf k v x xs=some y:=by
 induction xs generalizing j with
 | nil=>have:=h.here;simp at this
 | cons z xs ih=>
  simp only [entOf]
  cases j with
  | zero=>have:=h.here;simp at this;subst this;rw [h.eq];rfl
  | succ j=>
   rw [h.ahead 0 z (by omega) rfl,cond_false]
   exact ih ⟨by simpa using h.here,h.eq,fun i z' hi hz=>h.ahead (i+1) z' (by omega) (by simpa using hz)⟩
theorem At1.turn{x:k.den}{xs:Ents k v}{j:Nat}{y:Int×(k.den×v.den)}(h:At1 k v x xs j y)(f:v.den->v.den):turnL k v x f xs=xs.set j (y.1,(y.2.1,f y.2.2)):=by
 induction xs generalizing j with
 | nil=>rfl
 | cons z xs ih=>
  simp only [turnL]
  cases j with
  | zero=>have:=h.here;simp at this;subst this;rw [h.eq];rfl
  | succ j=>
   rw [h.ahead 0 z (by omega) rfl,cond_false,List.set_cons_succ]
   congr 1
   exact ih ⟨by simpa using h.here,h.eq,fun i z' hi hz=>h.ahead (i+1) z' (by omega) (by simpa using hz)⟩
theorem At1.drop{x:k.den}{xs:Ents k v}{j:Nat}{y:Int×(k.den×v.den)}(h:At1 k v x xs j y):dropL k v x xs=xs.eraseIdx j:=by
 induction xs generalizing j with
 | nil=>rfl
 | cons z xs ih=>
  simp only [dropL]
  cases j with
  | zero=>have:=h.here;simp at this;subst this;rw [h.eq];rfl
  | succ j=>
   rw [h.ahead 0 z (by omega) rfl,cond_false,zBe]
   congr 1
   exact ih ⟨by simpa using h.here,h.eq,fun i z' hi hz=>h.ahead (i+1) z' (by omega) (by simpa using hz)⟩
theorem qAO{x:k.den}{xs:Ents k v}(h:entOf k v x xs=none):dropL k v x xs=xs:=by
 induction xs with
 | nil=>rfl
 | cons z xs ih=>
  simp only [entOf] at h
  simp only [dropL]
  cases q:eqD k x z.2.1 with
  | true=>rw [q] at h;cases h
  | false=>rw [q] at h;rw [cond_false,ih h]
theorem qpT{w' w1:World}{M':Nat->Prop}(hk:keyOk P t k=true){x:k.den}{a:Value}(ha:Dat w1 M' k x a):(xs:Ents k v)->(es:List MapEntry)->(i:Nat)->MEs w M k v xs es ->
  ((Instr.findAsking t a es i).run P w'=.ok none w'/\entOf k v x xs=none)\/∃ j e y,(Instr.findAsking t a es i).run P w'=.ok (some (i+j,e.val)) w'/\es[j]? = some e/\ME w M k v y e/\At1 k v x xs j y
 | [],es,i,h=>by simp only [MEs] at h;subst h;exact .inl ⟨by simp [Instr.findAsking],rfl⟩
 | y :: xs,es,i,h=>by
  obtain⟨e,r,rfl,h1,h2⟩:=h
  have he:=qpI (w:=w') hk ha h1.kD
  cases q:eqD k x y.2.1 with
  | true=>
   rw [q] at he
   exact .inr ⟨0,e,y,by simp [Instr.findAsking,he],rfl,h1,⟨rfl,q,fun i z hi _=>by omega⟩⟩
  | false=>
   rw [q] at he
   rcases qpT (w':=w') hk ha xs r (i+1) h2 with⟨r1,r2⟩ | ⟨j,e',y',r1,r2,r3,r4⟩
   ·exact .inl ⟨by simp [Instr.findAsking,he,r1],by simp only [entOf,q,cond_false];exact r2⟩
   ·refine .inr ⟨j+1,e',y',by simp [Instr.findAsking,he,r1,zAF,zBO 1 j],by simpa using r2,r3,⟨by simpa using r4.here,r4.eq,fun i' z hi hz=>?_⟩⟩
    cases i' with
    | zero=>simp at hz;subst hz;exact q
    | succ i'=>exact r4.ahead i' z (by omega) (by simpa using hz)
theorem qxN{w1:World}{M':Nat->Prop}{d:TypeDesc}(hsame:∀ (y:k.den) (b:Value),Dat w M k y b->∀ (x:k.den) (a:Value),Dat w1 M' k x a->Instr.sameNow d a b=some (eqD k x y)){x:k.den}{a:Value}(ha:Dat w1 M' k x a) :
  (xs:Ents k v)->(es:List MapEntry)->(i:Nat)->MEs w M k v xs es ->
  (Instr.findNow d a es i=some none/\entOf k v x xs=none)\/∃ j e y,Instr.findNow d a es i=some (some (i+j,e.val))/\es[j]? = some e/\ME w M k v y e/\At1 k v x xs j y
 | [],es,i,h=>by simp only [MEs] at h;subst h;exact .inl ⟨by simp [Instr.findNow],rfl⟩
 | y :: xs,es,i,h=>by
  obtain⟨e,r,rfl,h1,h2⟩:=h
  have he:=hsame y.2.1 e.key h1.kD x a ha
  cases q:eqD k x y.2.1 with
  | true=>
   rw [q] at he
   exact .inr ⟨0,e,y,by simp [Instr.findNow,he],rfl,h1,⟨rfl,q,fun i z hi _=>by omega⟩⟩
  | false=>
   rw [q] at he
   rcases qxN hsame ha xs r (i+1) h2 with⟨r1,r2⟩ | ⟨j,e',y',r1,r2,r3,r4⟩
   ·exact .inl ⟨by simp [Instr.findNow,he,r1],by simp only [entOf,q,cond_false];exact r2⟩
   ·refine .inr ⟨j+1,e',y',by simp [Instr.findNow,he,r1,zAF,zBO 1 j],by simpa using r2,r3,⟨by simpa using r4.here,r4.eq,fun i' z hi hz=>?_⟩⟩
    cases i' with
    | zero=>simp at hz;subst hz;exact q
    | succ i'=>exact r4.ahead i' z (by omega) (by simpa using hz)
theorem qsX{w1:World}{M':Nat->Prop}(hk:keyOk P t k=true):(∃ fs,P.underlying t=some (.struct fs))\/∃ d,P.underlying t=some d/\∀ (y:k.den) (b:Value),Dat w M k y b->∀ (x:k.den) (a:Value),Dat w1 M' k x a->Instr.sameNow d a b=some (eqD k x y):=by
 have hk':=hk
 unfold keyOk at hk'
 split at hk'
 ·rename_i fs hu;exact .inl ⟨fs,hu⟩
 ·rename_i hno
  simp only [zA,zT] at hk'
  obtain⟨h1,h2⟩:=hk'
  refine .inr ?_
  cases k <;> simp only [qeb,zAC] at h2
  ·split at h2
   ·rename_i q' hq
    simp only [zQ] at h2
    subst h2
    refine⟨_,hq,fun y b hb x a ha=>?_⟩
    have a1:=ha.1
    have b1:=hb.1
    rw [qaC ha.2] at a1
    rw [qaC hb.2] at b1
    simp only [RC,zz,and_true] at a1 b1
    subst a1;subst b1
    simp [Instr.sameNow,eqD]
   ·cases h2
  ·split at h2
   ·rename_i hq
    refine⟨_,hq,fun y b hb x a ha=>?_⟩
    have a1:=ha.1
    have b1:=hb.1
    rw [qaC ha.2] at a1
    rw [qaC hb.2] at b1
    simp only [RC,zz,and_true] at a1 b1
    subst a1;subst b1
    simp [Instr.sameNow,eqD]
   ·cases h2
theorem qoH{w' w1:World}{M':Nat->Prop}(hk:keyOk P t k=true){x:k.den}{a:Value}(ha:Dat w1 M' k x a){xs:Ents k v}{es:List MapEntry}(h:MEs w M k v xs es) :
  ((Instr.findKey t a es).run P w'=.ok none w'/\entOf k v x xs=none)\/∃ j e y,(Instr.findKey t a es).run P w'=.ok (some (j,e.val)) w'/\es[j]? = some e/\ME w M k v y e/\At1 k v x xs j y:=by
 rcases qsX (w:=w) (M:=M) (w1:=w1) (M':=M') hk with⟨fs,hu⟩ | ⟨d,hd,hsame⟩
 ·rw [run_findKey_eq w' (by rw [hu])]
  simpa using qpT (w':=w') hk ha xs es 0 h
 ·rcases qxN hsame ha xs es 0 h with⟨r1,r2⟩ | ⟨j,e,y,r1,r2,r3,r4⟩
  ·exact .inl ⟨MapKept.run_findKey hd r1,r2⟩
  ·refine .inr ⟨j,e,y,?_,r2,r3,r4⟩
   have:=MapKept.run_findKey (P:=P) (w:=w') hd r1
   simpa using this
structure MB (w:World) (M:Nat->Prop) (k v:Sh) (d:Mp k v) (es:Array MapEntry) (clock:Nat):Prop where
 clk:(clock:Int)=d.1
 ents:MEs w M k v d.2 es.toList
 lt:∀ x∈es.toList,x.born<clock
 nd:(es.toList.map (·.born)).Nodup
theorem qwQ{et:TypeId}(hz:zOk P et v=true):∃ z,(∀ w:World,(zeroValue et).run P w=.ok z w)/\∀ (w:World) (M:Nat->Prop),Dat w M v v.zero z:=by
 unfold zOk at hz
 split at hz
 ·cases hz
 ·rename_i i hi
  split at hz
  ·cases hz
  ·rename_i z hzz
   simp only [zA] at hz
   refine⟨z,fun w=>by simp [zeroValue,typeInfo,hi,hzz],fun w M=>⟨?_,?_⟩⟩
   ·have h2:=hz.2
    split at h2
    ·rename_i h0
     obtain⟨c,hc,hr⟩:=qgM (w:=w) (M:=M) v h0
     rw [List.append_nil] at hc
     rw [hc];exact hr
    ·cases h2
   ·have h1:=hz.1
    cases z <;> simp_all [qbp]
theorem qcs{es:Array MapEntry}{j:Nat}{e:MapEntry}(hj:es.toList[j]? = some e)(f:MapEntry->MapEntry):(es.modify j f).toList=es.toList.set j (f e):=by
 rw [Array.toList_modify,ChangeMaps.modify_eq_set _ _ _ _ hj]
theorem qCF{es:List MapEntry}{j:Nat}{e e':MapEntry}(hj:es[j]? = some e)(hb:e'.born=e.born):(es.set j e').map (·.born)=es.map (·.born):=by
 rw [zCH,hb]
 exact WideElems.set_self _ _ _ (by rw [zAb,hj];rfl)
theorem MB.set{d:Mp k v}{es:Array MapEntry}{clock:Nat}(B:MB w M k v d es clock){j:Nat}{e:MapEntry}(hj:es.toList[j]? = some e)(f:MapEntry->MapEntry)(hb:(f e).born=e.born){x:Int×(k.den×v.den)}(hx:ME w M k v x (f e)) :
  MB w M k v (d.1,d.2.set j x) (es.modify j f) clock:=by
 have hl:=qcs hj f
 have hbs:=qCF hj hb
 refine⟨B.clk,by rw [hl];exact B.ents.set j hx,fun y hy=>?_,by rw [hl,hbs];exact B.nd⟩
 rw [hl] at hy
 have:y.born∈(es.toList.set j (f e)).map (·.born):=zr.2 ⟨y,hy,rfl⟩
 rw [hbs] at this
 obtain⟨z,hz,e1⟩:=zr.1 this
 rw [<- e1];exact B.lt z hz
theorem MB.push{d:Mp k v}{es:Array MapEntry}{clock:Nat}(B:MB w M k v d es clock){x:k.den}{y:v.den}{a c:Value}(ha:Dat w M k x a)(hc:Dat w M v y c) :
  MB w M k v (d.1+1,d.2 ++ [(d.1,(x,y))]) (es.push ⟨a,c,clock⟩) (clock+1):=by
 refine⟨by simp only;rw [<- B.clk];simp,?_,fun z hz=>?_,?_⟩
 ·rw [zAT]
  exact B.ents.append ⟨_,[],rfl,⟨B.clk,qeB ha,qeB hc⟩,rfl⟩
 ·rw [zAT,zU] at hz
  rcases hz with hz | hz
  ·exact zCF (B.lt z hz)
  ·simp at hz;subst hz;exact zBf _
 ·rw [zAT,zAr]
  refine za.2 ⟨B.nd,by simp,fun p hp q hq e=>?_⟩
  obtain⟨z,hz,rfl⟩:=zr.1 hp
  simp at hq
  have:=B.lt z hz
  omega
variable {ty kt et : TypeId} {b : Nat} {d : Mp k v} {es : Array MapEntry} {clock : Nat}
theorem qqQ(hu:P.underlying ty=some (.map kt et))(hk:keyOk P kt k=true)(hz:zOk P et v=true)(hb:w.heap[b]? = some (.map es clock))(B:MB w M k v d es clock){x:k.den}{a:Value}(ha:Dat w M k x a)(ok:Bool) :
  ∃ c,Dat w M v (mpGet k v d x) c/\(Instr.lookup ty (.map (some b)) a ok).run P w=.ok (if ok then .tuple #[c,.bool (mpHas k v d x)] else c) w:=by
 rcases qoH (w':=w) hk ha B.ents with⟨h1,h2⟩ | ⟨j,e,y,h1,h2,h3,h4⟩
 ·obtain⟨z,hz1,hz2⟩:=qwQ hz
  refine⟨z,by unfold mpGet;rw [h2];exact hz2 w M,?_⟩
  have:mpHas k v d x=false:=by unfold mpHas;rw [h2];rfl
  simp [Instr.lookup,run_underlying hu,MapKept.run_getObj_map hb,qbg hk ha,h1,hz1,Result.andThen,this]
 ·refine⟨e.val,by unfold mpGet;rw [h4.ent];exact h3.vD,?_⟩
  have:mpHas k v d x=true:=by unfold mpHas;rw [h4.ent];rfl
  simp [Instr.lookup,run_underlying hu,MapKept.run_getObj_map hb,qbg hk ha,h1,Result.andThen,this]
theorem qqP(hu:P.underlying ty=some (.map kt et))(hk:keyOk P kt k=true)(hb:w.heap[b]? = some (.map es clock))(B:MB w M k v d es clock){x:k.den}{y:v.den}{a c:Value}(ha:Dat w M k x a)(hc:Dat w M v y c) :
  ∃ es' clock',(Instr.mapUpdate ty (.map (some b)) a c).run P w=.ok () (setBlock w b (.map es' clock'))/\MB w M k v (mpPut k v d x y) es' clock':=by
 rcases qoH (w':=w) hk ha B.ents with⟨h1,h2⟩ | ⟨j,e,z,h1,h2,h3,h4⟩
 ·refine⟨es.push ⟨a,c,clock⟩,clock+1,by simp [Instr.mapUpdate,run_underlying hu,MapKept.run_getObj_map hb,qbg hk ha,h1,MapKept.run_setObj_map _ hb,Result.andThen,setBlock],?_⟩
  have:mpPut k v d x y=(d.1+1,d.2 ++ [(d.1,(x,y))]):=by unfold mpPut mpHas;rw [h2];rfl
  rw [this];exact B.push ha hc
 ·have hj:es[j]? = some e:=by simpa using h2
  have hx:=qfx h4.eq
  have hka:e.key=a:=h3.kD.det (qha hk) (by rw [<- hx];exact ha)
  refine⟨es.modify j (fun e'=>{ e' with key:=a,val:=c }),clock,by simp [Instr.mapUpdate,run_underlying hu,MapKept.run_getObj_map hb,qbg hk ha,h1,hj,hka,qlK (qha hk) ha,MapKept.run_setObj_map _ hb,Result.andThen,setBlock],?_⟩
  have:mpPut k v d x y=(d.1,d.2.set j (z.1,(z.2.1,y))):=by unfold mpPut mpHas;rw [h4.ent,h4.turn];rfl
  rw [this]
  exact B.set h2 (fun e'=>{ e' with key:=a,val:=c }) rfl ⟨h3.born,by simp only;rw [<- hx];exact qeB ha,qeB hc⟩
theorem qsx(hu:P.underlying ty=some (.map kt et))(hk:keyOk P kt k=true)(hz:zOk P et v=true)(hb:w.heap[b]? = some (.map es clock))(B:MB w M k v d es clock){x:k.den}{a:Value}(ha:Dat w M k x a) :
  ∃ c es' clock',(Instr.mapEntry ty (.map (some b)) a).run P w=.ok (.tuple #[c,goInt (qfk k v d x)]) (setBlock w b (.map es' clock'))/\Dat w M v (mpGet k v d x) c/\MB w M k v (mpEnt k v d x) es' clock':=by
 rcases qoH (w':=w) hk ha B.ents with⟨h1,h2⟩ | ⟨j,e,z,h1,h2,h3,h4⟩
 ·obtain⟨z,hz1,hz2⟩:=qwQ hz
  have e1:qfk k v d x=(clock:Int):=by unfold qfk;rw [h2];exact B.clk.symm
  refine⟨z,es.push ⟨a,z,clock⟩,clock+1,by rw [e1];simp [Instr.mapEntry,run_underlying hu,MapKept.run_getObj_map hb,qbg hk ha,h1,hz1,MapKept.run_setObj_map _ hb,Result.andThen,setBlock],by unfold mpGet;rw [h2];exact hz2 w M,?_⟩
  have:mpEnt k v d x=(d.1+1,d.2 ++ [(d.1,(x,v.zero))]):=by unfold mpEnt mpHas;rw [h2];rfl
  rw [this];exact B.push ha (hz2 w M)
 ·have hj:es[j]? = some e:=by simpa using h2
  have hx:=qfx h4.eq
  have hka:e.key=a:=h3.kD.det (qha hk) (by rw [<- hx];exact ha)
  have hsame:es.modify j (fun e'=>{ e' with key:=a })=es:=by
   apply Array.ext'
   rw [qcs h2]
   have:({ e with key:=a }:MapEntry)=e:=by rw [<- hka]
   rw [this]
   exact WideElems.set_self _ _ _ h2
  have e1:qfk k v d x=(e.born:Int):=by unfold qfk;rw [h4.ent];exact h3.born.symm
  refine⟨e.val,es,clock,by rw [e1];simp [Instr.mapEntry,run_underlying hu,MapKept.run_getObj_map hb,qbg hk ha,h1,hj,hka,qlK (qha hk) ha,hsame,MapKept.run_setObj_map _ hb,Result.andThen,setBlock],by unfold mpGet;rw [h4.ent];exact h3.vD,?_⟩
  have:mpEnt k v d x=d:=by unfold mpEnt mpHas;rw [h4.ent];rfl
  rw [this];exact B
theorem qBj{n:Nat}{y:v.den}:{xs:Ents k v} -> {es:List MapEntry}->MEs w M k v xs es->xs.any (fun e=>e.1==(n:Int))=true ->
  ∃ j e x,es.findIdx? (fun e=>((e.born:Nat):Int)==(n:Int))=some j/\es[j]? = some e/\ME w M k v x e/\atL k v (n:Int) y xs=xs.set j (x.1,(x.2.1,y))
 | [],_,_,ha=>by cases ha
 | x :: xs,es,h,ha=>by
  obtain⟨e,r,rfl,h1,h2⟩:=h
  by_cases q:x.1=(n:Int)
  ·refine⟨0,e,x,?_,rfl,h1,?_⟩
   ·rw [List.findIdx?_cons,h1.born,q];simp
   ·simp only [atL];rw [show (x.1==(n:Int))=true from beq_iff_eq.2 q];rfl
  ·have ha':xs.any (fun e=>e.1==(n:Int))=true:=by
    simp only [List.any_cons,zx,beq_iff_eq] at ha
    rcases ha with ha | ha
    ·exact absurd ha q
    ·exact ha
   obtain⟨j,e',x',q1,q2,q3,q4⟩:=qBj (y:=y) h2 ha'
   refine⟨j+1,e',x',?_,by simpa using q2,q3,?_⟩
   ·rw [List.findIdx?_cons,h1.born,show (x.1==(n:Int))=false from zO q];simp [q1]
   ·simp only [atL];rw [show (x.1==(n:Int))=false from zO q,q4];rfl
theorem qsw(hb:w.heap[b]? = some (.map es clock))(B:MB w M k v d es clock){m:Int}(hs:qiu k v d m=true){y:v.den}{c:Value}(hc:Dat w M v y c){kd:IntKind} :
  ∃ es' clock',(Instr.entryStore ty (.map (some b)) (.int kd m) c).run P w=.ok () (setBlock w b (.map es' clock'))/\MB w M k v (mpAt k v d m y) es' clock':=by
 have hnat:∃ n:Nat,m=(n:Int):=by
  unfold qiu at hs
  rw [zBi] at hs
  obtain⟨x,hx,hq⟩:=hs
  obtain⟨i,hi,e1⟩:=zAs hx
  obtain⟨e,_,he⟩:=B.ents.get (j:=i) (x:=x) (by rw [zW hi,e1])
  exact⟨e.born,by rw [he.born];exact (beq_iff_eq.1 hq).symm⟩
 obtain⟨n,rfl⟩:=hnat
 obtain⟨j,e,x,h1,h2,h3,h4⟩:=qBj (y:=y) B.ents hs
 have hidx:es.findIdx? (fun e=>((e.born:Nat):Int)==(n:Int))=some j:=by rw [WideElems.findIdx_arr];exact h1
 refine⟨es.modify j (fun e'=>{ e' with val:=c }),clock,by simp [Instr.entryStore,MapKept.run_getObj_map hb,asInt,asIntOf,hidx,MapKept.run_setObj_map _ hb,Result.andThen,setBlock],?_⟩
 unfold mpAt
 rw [h4]
 exact B.set h2 (fun e'=>{ e' with val:=c }) rfl ⟨h3.born,h3.key,qeB hc⟩
theorem qqR{rt kt':TypeId}(hu:P.underlying ty=some (.map kt et))(hk:keyOk P kt k=true)(hb:w.heap[b]? = some (.map es clock))(B:MB w M k v d es clock){x:k.den}{a:Value}(ha:Dat w M k x a) :
  ∃ es' clock',(Builtin.delete_ #[ty,kt'] rt #[.map (some b),a]).run P w=.ok (.tuple #[]) (setBlock w b (.map es' clock'))/\MB w M k v (mpDel k v d x) es' clock':=by
 rcases qoH (w':=w) hk ha B.ents with⟨h1,h2⟩ | ⟨j,e,z,h1,h2,h3,h4⟩
 ·refine⟨es,clock,by simp [Builtin.delete_,run_underlying hu,MapKept.run_getObj_map hb,qbg hk ha,h1,MapKept.run_setObj_map _ hb,Result.andThen,setBlock],?_⟩
  have:mpDel k v d x=d:=by unfold mpDel;rw [qAO h2]
  rw [this];exact B
 ·have hjl:j<es.toList.length:=(zS.1 h2).1
  have hjs:j<es.size:=by simpa using hjl
  have hsub:(es.eraseIdxIfInBounds j).toList=es.toList.eraseIdx j:=by
   unfold Array.eraseIdxIfInBounds
   rw [dif_pos hjs]
   simp
  refine⟨es.eraseIdxIfInBounds j,clock,by simp [Builtin.delete_,run_underlying hu,MapKept.run_getObj_map hb,qbg hk ha,h1,MapKept.run_setObj_map _ hb,Result.andThen,setBlock],?_⟩
  have:mpDel k v d x=(d.1,d.2.eraseIdx j):=by unfold mpDel;rw [h4.drop]
  rw [this]
  refine⟨B.clk,by rw [hsub];exact B.ents.erase j,fun y hy=>B.lt y (by rw [hsub] at hy;exact (zAw _ _).subset hy),?_⟩
  rw [hsub]
  exact B.nd.sublist ((zAw _ _).map _)
theorem qsy{rt:TypeId}(hu:P.underlying ty=some (.map kt et))(hb:w.heap[b]? = some (.map es clock))(B:MB w M k v d es clock) :
  (Builtin.clear_ #[ty] rt #[.map (some b)]).run P w=.ok (.tuple #[]) (setBlock w b (.map #[] clock))/\MB w M k v (d.1,[]) #[] clock:=by
 refine⟨by simp [Builtin.clear_,run_underlying hu,MapKept.run_getObj_map hb,MapKept.run_setObj_map _ hb,Result.andThen,setBlock],B.clk,rfl,(fun x hx=>by cases hx),by simp⟩
theorem qoX{rt:TypeId}(hu:P.underlying ty=some (.map kt et))(hb:w.heap[b]? = some (.map es clock))(B:MB w M k v d es clock){tys:Array TypeId}(ht:tys[0]? = some ty)(rest:List Value) :
  (Builtin.len_ tys rt (.map (some b) :: rest).toArray).run P w=.ok (.int .i64 d.2.length) w:=by
 have hl:d.2.length=es.size:=by have:=B.ents.length;simpa using this
 simp [Builtin.len_,ht,run_underlying hu,MapKept.run_getObj_map hb,Result.andThen,goInt,hl]
end
end
theorem qc{α:Type}{b:Bool}{x:Option α}{y:α}(h:(bif b then x else none)=some y):b=true/\x=some y:=by
 cases b with
 | true=>exact⟨rfl,h⟩
 | false=>cases h
end Go.Abs
