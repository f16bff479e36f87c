import Derived.Test.YtnhjpicdijeagaaDoorAbsFrag
import Derived.Shelf.SlSortCmp.NoneTotal
import Derived.Lib.QuietBelow
namespace Go.Abs
open Go.RowKit
def ltB{α:Type}(D:α->α->Option Int)(a b:α):Bool:=match D a b with | some c=>decide (c<0) | none=>false
structure SortOk {α:Type} (D:α->α->Option Int) (xs:List α):Prop where
 lt:xs.length<4611686018427387904
 tot:∀ a∈xs,∀ b∈xs,∃ c,D a b=some c
 irrefl:∀ a∈xs,ltB D a a=false
 trans:∀ a∈xs,∀ b∈xs,∀ c∈xs,ltB D a b=true->ltB D b c=true->ltB D a c=true
 anti:∀ a∈xs,∀ b∈xs,ltB D a b=false->ltB D b a=false->a=b
def qhE{α:Type}(D:α->α->Option Int)(xs ys:List α):Prop:=ys.Perm xs/\ys.Pairwise fun a b=>ltB D b a=false
noncomputable def sortR{α:Type}(D:α->α->Option Int)(xs:List α):Option (List α):=open Classical in
 if h:SortOk D xs/\∃ ys,qhE D xs ys then some (Classical.choose h.2) else none
theorem qiq{α:Type}{r:α->α->Prop}:(ys zs:List α)->(∀ a∈ys,∀ b∈ys,r a b->r b a->a=b)->ys.Perm zs->ys.Pairwise r->zs.Pairwise r->ys=zs
 | [],zs,_,hp,_,_=>(List.Perm.nil_eq hp)
 | a :: ys,[],_,hp,_,_=>absurd (hp.length_eq) (by simp)
 | a :: ys,b :: zs,ha,hp,h1,h2=>by
  have hab:a=b:=by
   have m1:a∈b :: zs:=hp.subset (by simp)
   have m2:b∈a :: ys:=hp.symm.subset (by simp)
   rcases zi.1 m1 with e | m1
   ·exact e
   rcases zi.1 m2 with e | m2
   ·exact e.symm
   exact ha a (by simp) b (by simp [m2]) ((zAA.1 h1).1 b m2) ((zAA.1 h2).1 a m1)
  subst hab
  rw [qiq ys zs (fun x hx y hy=>ha x (by simp [hx]) y (by simp [hy])) (List.Perm.cons_inv hp) (zAA.1 h1).2 (zAA.1 h2).2]
theorem qhE.uniq{α:Type}{D:α->α->Option Int}{xs ys zs:List α}(h:SortOk D xs)(h1:qhE D xs ys)(h2:qhE D xs zs):ys=zs:=
 qiq ys zs (fun a ha b hb r1 r2=>h.anti a (h1.1.subset ha) b (h1.1.subset hb) r2 r1) (h1.1.trans h2.1.symm) h1.2 h2.2
theorem qwZ{α:Type}{D:α->α->Option Int}{xs ys:List α}(h:SortOk D xs)(hs:qhE D xs ys):sortR D xs=some ys:=by
 unfold sortR
 rw [dif_pos ⟨h,ys,hs⟩]
 exact congrArg some (qhE.uniq h (zAg (⟨h,ys,hs⟩:SortOk D xs/\∃ ys,qhE D xs ys).2) hs)
theorem qrp{α:Type}{D:α->α->Option Int}{xs ys:List α}(h:sortR D xs=some ys):SortOk D xs/\qhE D xs ys:=by
 unfold sortR at h
 split at h
 ·rename_i hh
  cases h
  exact⟨hh.1,zAg hh.2⟩
 ·cases h
theorem SortOk.ntrans{α:Type}{D:α->α->Option Int}{xs:List α}(h:SortOk D xs){x y z:α}(hx:x∈xs)(hy:y∈xs)(hz:z∈xs)(h1:ltB D x y=false)(h2:ltB D y z=false):ltB D x z=false:=by
 cases e:ltB D x z with
 | false=>rfl
 | true=>
  cases e2:ltB D y x with
  | true=>rw [h.trans y hy x hx z hz e2 e] at h2;cases h2
  | false=>
   have:=h.anti x hx y hy h1 e2
   subst this
   rw [e] at h2;cases h2
theorem SortOk.sorts{α:Type}{D:α->α->Option Int}{X:List α}(h:SortOk D X):∀ xs:List α,(∀ x∈xs,x∈X)->∃ ys,qhE D xs ys
 | [],_=>⟨[],.refl _,.nil⟩
 | x :: xs,hX=>by
  obtain⟨ys,h1,h2⟩:=SortOk.sorts h xs fun y hy=>hX y (by simp [hy])
  have hx:=hX x (by simp)
  have ins:∀ zs:List α,(∀ z∈zs,z∈X)->zs.Pairwise (fun a b=>ltB D b a=false)->∃ us:List α,us.Perm (x :: zs)/\us.Pairwise fun a b=>ltB D b a=false:=by
   intro zs
   induction zs with
   | nil=>exact fun _ _=>⟨[x],.refl _,by simp⟩
   | cons z zs ih=>
    intro hz hp
    have hzX:=hz z (by simp)
    obtain⟨p1,p2⟩:=zAA.1 hp
    cases e:ltB D z x with
    | false=>
     refine⟨x :: z :: zs,.refl _,zAA.2 ⟨fun u hu=>?_,hp⟩⟩
     rcases zi.1 hu with rfl | hu
     ·exact e
     ·exact h.ntrans (hz u (by simp [hu])) hzX hx (p1 u hu) e
    | true=>
     obtain⟨us,u1,u2⟩:=ih (fun u hu=>hz u (by simp [hu])) p2
     refine⟨z :: us,(u1.cons z).trans (.swap x z zs),zAA.2 ⟨fun u hu=>?_,u2⟩⟩
     rcases zi.1 (u1.subset hu) with rfl | hu
     ·cases e2:ltB D u z with
      | false=>rfl
      | true=>
       have:=h.trans z hzX u hx z hzX e e2
       rw [h.irrefl z hzX] at this;cases this
     ·exact p1 u hu
  obtain⟨us,u1,u2⟩:=ins ys (fun z hz=>hX z (by simp [h1.subset hz])) h2
  exact⟨us,u1.trans (h1.cons x),u2⟩
theorem qBH{α:Type}{D:α->α->Option Int}{xs:List α}(h:SortOk D xs):∃ ys,sortR D xs=some ys/\qhE D xs ys:=by
 obtain⟨ys,hs⟩:=h.sorts xs fun _ h=>h
 exact⟨ys,qwZ h hs,hs⟩
abbrev Elt(w:World)(M:Nat->Prop)(s:Sh)(X:List s.den):Type:={ p:s.den×List Value // p.1∈X/\RC w M s p.1 p.2 }
theorem elts{w:World}{M:Nat->Prop}{s:Sh}{X:List s.den}:(xs:List s.den)->(cs:List Value)->RL w M s xs cs->(∀ x∈xs,x∈X)->∃ l:List (Elt w M s X),l.map (fun p=>p.1.1)=xs/\l.flatMap (fun p=>p.1.2)=cs
 | [],_,h,_=>by simp only [RL] at h;subst h;exact⟨[],rfl,rfl⟩
 | x :: xs,_,h,hX=>by
  simp only [RL] at h
  obtain⟨c,d,rfl,h1,h2⟩:=h
  obtain⟨l,e1,e2⟩:=elts xs d h2 fun y hy=>hX y (by simp [hy])
  exact⟨⟨(x,c),hX x (by simp),h1⟩ :: l,by rw [List.map_cons,e1],by rw [List.flatMap_cons,e2]⟩
theorem qAN{w:World}{M:Nat->Prop}{s:Sh}{X:List s.den}:(l:List (Elt w M s X))->RL w M s (l.map fun p=>p.1.1) (l.flatMap fun p=>p.1.2)
 | []=>rfl
 | p :: l=>by
  rw [List.map_cons,List.flatMap_cons]
  simp only [RL]
  exact⟨_,_,rfl,p.2.2,qAN l⟩
theorem flat_get{α:Type} [Inhabited α] (f:α->List Value)(k:Nat)(hk:∀ x,(f x).length=k):(l:List α)->(t:Nat)->t<l.length*k->(l.flatMap f)[t]? = some ((f l[t / k]!)[t % k]!)
 | [],t,h=>by simp at h
 | x :: l,t,h=>by
  have hx:=hk x
  rw [List.flatMap_cons]
  rcases zAO t k with h1 | h1
  ·rw [zl (by omega),Nat.div_eq_of_lt h1,Nat.mod_eq_of_lt h1]
   rw [zW (by omega)]
   simp [hx,h1]
  ·have hk0:0<k:=by
    rcases zBI k with e | e
    ·subst e;simp at h
    ·exact e
   have e1:t / k=(t - k) / k+1:=by rw [<- Nat.add_div_right _ hk0,Nat.sub_add_cancel h1]
   have e2:t % k=(t - k) % k:=by rw [<- Nat.add_mod_right (t - k) k,Nat.sub_add_cancel h1]
   rw [zu (by omega),hx,flat_get f k hk l (t - k) (by simp only [List.length_cons,zAM] at h;omega),e1,e2]
   simp
theorem qrN{α:Type} [Inhabited α] (f:α->List Value)(k:Nat)(hk:∀ x,(f x).length=k)(d:Array α):(Go.Sort.flatK f k d).toList=d.toList.flatMap f:=by
 apply zAY
 intro t
 rcases zAO t (d.size*k) with h | h
 ·rw [flat_get f k hk d.toList t (by simpa using h)]
  have:=Go.Sort.get_flatK f k d t h
  have h2:t<(Go.Sort.flatK f k d).size:=by rw [Go.Sort.size_flatK];exact h
  rw [getElem!_pos _ t h2] at this
  rw [zp,zd h2,this,show d.toList[t / k]! = d[t / k]! from by rw [getElem!_def,getElem!_def,zp]]
 ·rw [zX (by rw [zAt,Go.Sort.size_flatK];exact h),zX]
  rw [List.length_flatMap]
  have:(d.toList.map fun x=>(f x).length)=List.replicate d.size k:=by
   rw [show (fun x=>(f x).length)=fun _=>k from funext hk,List.map_const'];simp
  rw [this,List.sum_replicate_nat]
  exact h
section
open Go.Sort (putRow putCells grow flatK mapBlock onCells)
variable {P : Program} {gs : List (Nat × List Value)} {w0 w : World} {A M0 : Nat -> Prop} {h : List O} {σ : Nat -> Loc}
def sw(w:World)(m blk:Nat)(F:Array Value)(os:Array Obj):World:=grow (putRow id (Go.Sort.ahead w m) blk 0 F) os
theorem qsG(F c:Array Value):(putCells id 0 F c).size=c.size:=by simp [putCells]
theorem qsF{F c:Array Value}(hF:F.size<=c.size):(putCells id 0 F c).toList.take F.size=F.toList:=by
 apply zAY
 intro j
 rw [zt]
 split
 ·rename_i hj
  rw [zp,zp]
  unfold putCells
  rw [Array.getElem?_mapIdx,zd (show j<c.size by omega),Option.map_some,zJ ⟨zAE _,by omega⟩,zd hj]
  simp [hj]
 ·rename_i hj
  rw [zX (by simpa using hj)]
theorem qsh(m blk:Nat)(F:Array Value)(os:Array Obj):(sw w m blk F os).heap.size=w.heap.size+os.size:=by
 simp [sw,grow,putRow,mapBlock,Go.Sort.ahead]
theorem qsi{m blk:Nat}{F:Array Value}{os:Array Obj}{b:Nat}(hb:b<w.heap.size)(hne:b≠blk):(sw w m blk F os).heap[b]? = w.heap[b]?:=by
 have h1:b<(w.heap.modify blk (onCells (putCells id 0 F))).size:=by simpa using hb
 show ((w.heap.modify blk (onCells (putCells id 0 F)))++os)[b]? = w.heap[b]?
 rw [zBU h1,Array.getElem?_modify,zL (fun e=>hne e.symm)]
theorem qEl{m blk:Nat}{F:Array Value}{os:Array Obj}{cur:Array Value}{e:TypeId}(hb:w.heap[blk]? = some (.cells cur e (0,0))):(sw w m blk F os).heap[blk]? = some (.cells (putCells id 0 F cur) e (0,0)):=by
 have hlt:=(zI.1 hb).1
 have h1:blk<(w.heap.modify blk (onCells (putCells id 0 F))).size:=by simpa using hlt
 have hh:(sw w m blk F os).heap=w.heap.modify blk (onCells (putCells id 0 F))++os:=rfl
 rw [hh,zBU h1,Array.getElem?_modify,zJ rfl,hb]
 rfl
theorem qDj(m blk:Nat)(F:Array Value)(os:Array Obj):(sw w m blk F os).os=w.os/\TDr w (sw w m blk F os)/\(sw w m blk F os).output=w.output:=⟨rfl,⟨rfl,zBg _ _⟩,rfl⟩
theorem qzq(R:Rep w0 A M0 w h σ){o ver:Nat}{e:TypeId}{s:Sh}{xs ys:List s.den}(eo:getO h o=.row false ver e s xs){blk:Nat}(ha:(σ o).a=some blk){F:Array Value}(hl:ys.length=xs.length)(hr:RL w (mutb M0 h σ) s ys F.toList)(m:Nat)(os:Array Obj) :
  Next w0 A M0 w h σ (sw w m blk F os) (h.set o (.row false ver e s ys)) σ:=by
 have hlt:=qae (h:=h) (i:=o) (by rw [eo];simp)
 have hgs:=qad hlt (.row false ver e s ys)
 have ro:=R.obj o
 rw [eo] at ro
 obtain⟨hs1,cs,hown,hrl⟩:=ro
 have hfl:F.size=xs.length*s.n:=by have:=hr.length;rw [hl] at this;simpa using this
 rcases hown.2 with⟨hv,hm⟩ | ⟨g,cap,cur,hgv,_,hg,hnc,hcm,hcs,htake⟩
 ·simp [rowV,Loc.addr,ha] at hv
 have hla:=hgv
 simp only [rowV,Value.slice.injEq,true_and] at hla
 obtain⟨hla,hlc⟩:=hla
 have hgb:g=blk:=by simp [Loc.addr,ha] at hla;exact hla.symm
 subst hgb
 have hxc:=zy s.n hnc
 obtain⟨q1,q2,q3⟩:=qDj (w:=w) m g F os
 refine Next.upd R o (by rw [eo];trivial) (by rw [hgs,zJ rfl];trivial) q1 q2 q3 (by rw [qsh];omega) (fun o' hne=>⟨by rw [hgs,zL (fun e=>hne e.symm)],rfl⟩) (fun b hb hne=>qsi hb fun e'=>hne (by rw [eo];rfl) (by rw [e',ha]))
  (fun b hl' ha'=>.inl ⟨by rw [eo];rfl,ha'⟩) (by rw [eo];exact⟨false,ver,e,s,ys,by rw [hgs,zJ rfl],Nat.le_refl _,fun _=>⟨rfl,rfl,hl⟩⟩) (fun k st=>?_)
 rw [hgs,zJ rfl]
 refine⟨hs1,F.toList,?_,RL.keeps k hr⟩
 rw [hl,hgv]
 refine⟨by simpa using hfl,.inr ⟨g,cap,putCells id 0 F cur,rfl,zAE _,qEl hg,hnc,hcm,by rw [qsG];exact hcs,?_⟩⟩
 rw [<- hfl]
 exact qsF (by omega)
theorem qEC{g:Nat}{s:Sh}{Dc:Dens [.dat s,.dat s]->Option (Dens [.dat (.int .i64)])}(S:SpecD P gs g [.dat s,.dat s] [.dat (.int .i64)] Dc)(hgl:Gl gs w0 A)(R:Rep w0 A M0 w h σ){o:Nat}(hlv:live (getO h o)){blk:Nat}(ha:(σ o).a=some blk)
  {X:List s.den} {a b:Elt w (mutb M0 h σ) s X} {va vb:Value} (hva:∀ W:World,RC W (mutb M0 h σ) s a.1.1 a.1.2->RV W (mutb M0 h σ) [] σ0 (enc s a.1.1) va) (hvb:∀ W:World,RC W (mutb M0 h σ) s b.1.1 b.1.2->RV W (mutb M0 h σ) [] σ0 (enc s b.1.1) vb) {c:Int} (hc:Dc (a.1.1,b.1.1,())=some (c,()))
  (m:Nat) (F:Array Value) (os:Array Obj):Calls P g #[va,vb] (sw w m blk F os) fun e w'=>e=.returned (.int .i64 c)/\∃ q os',w'=grow ((sw w m blk F os).drewN q) os':=by
 have hown:own h σ blk:=⟨o,hlv,.of ha⟩
 have hk:Keeps w (mutb M0 h σ) (sw w m blk F os) (mutb M0 h σ):=⟨by rw [qsh];omega,fun b' hb hm=>qsi hb fun e=>hm (e▸.inr hown),fun b' _ hm=>hm⟩
 have hg:GW gs (sw w m blk F os):=fun p hp=>by
  obtain⟨h1,h2⟩:=hgl.now R p hp
  refine⟨by rw [qsh];omega,fun j v hj=>(World.cell?_of_block (w:=w) (qsi h1 fun e=>?_)).trans (h2 j v hj)⟩
  have e:p.1=blk:=e
  rcases R.inA blk hown with h' | h'
  ·exact hgl.out p hp (e▸h')
  ·have:=(hgl.at_ p hp).1;omega
 refine (S (mutb M0 h σ) (sw w m blk F os) (a.1.1,b.1.1,()) (c,()) [va,vb] (fun b' hb=>by rw [qsh];have:=R.mlt hb;omega) hg ?_ hc).mono ?_
 ·simp only [kvals,Kd.val,RVs]
  exact⟨_,_,rfl,hva _ (RC.keeps hk a.2.2),_,_,rfl,hvb _ (RC.keeps hk b.2.2),rfl⟩
 ·rintro e w' ⟨v,rfl,hb,hv⟩
  simp only [kvals,Kd.val,retV,enc,RV] at hv
  subst hv
  refine⟨rfl,?_⟩
  obtain⟨p,hp⟩:=regrown_of_below hb.old
  have hd:w'.drawn=p.d:=by rw [hp];rfl
  refine⟨p.d - (sw w m blk F os).drawn,p.os,?_⟩
  have h1:=hb.tape.2
  rw [hd] at h1
  rw [hp]
  unfold redrawn World.drewN
  rw [Nat.add_sub_cancel' h1]
def cfE{s:Sh}(D:s.den->s.den->Option Int){M:Nat->Prop}{X:List s.den}(a b:Elt w M s X):Int:=match D a.1.1 b.1.1 with | some c=>c | none=>0
theorem qxV{s:Sh}{D:s.den->s.den->Option Int}{M:Nat->Prop}{X:List s.den}(h:SortOk D X)(a b:Elt w M s X):Go.Proofs.ltOf (cfE D) a b=ltB D a.1.1 b.1.1:=by
 obtain⟨c,hc⟩:=h.tot _ a.2.1 _ b.2.1
 unfold Go.Proofs.ltOf cfE ltB
 rw [hc]
theorem qDY{s:Sh}{D:s.den->s.den->Option Int}{M:Nat->Prop}{X:List s.den}(h:SortOk D X):Go.Sort.SWO (Go.Proofs.ltOf (cfE (w:=w) (M:=M) (X:=X) D)) where
 irrefl a:=by rw [qxV h];exact h.irrefl _ a.2.1
 trans a b c h1 h2:=by rw [qxV h] at *;exact h.trans _ a.2.1 _ b.2.1 _ c.2.1 h1 h2
 ntrans a b c h1 h2:=by rw [qxV h] at *;exact h.ntrans a.2.1 b.2.1 c.2.1 h1 h2
theorem qDt{α:Type} [Inhabited α] {d d':Array α}(h:Go.Sort.PermIn 0 d.size d d'):d'.toList.Perm d.toList:=by
 obtain⟨h1,-,h3⟩:=h
 have e1:d'.extract 0 d.size=d':=by rw [<- h1];simp
 have e2:d.extract 0 d.size=d:=by simp
 rwa [e1,e2] at h3
theorem qBF{s:Sh}{D:s.den->s.den->Option Int}{M:Nat->Prop}{X:List s.den} [Inhabited (Elt w M s X)] (h:SortOk D X){d d':Array (Elt w M s X)}(hd:d.toList.map (fun p=>p.1.1)=X)(hp:Go.Sort.PermIn 0 d.size d d')(hs:Go.Sort.SortedIn (Go.Proofs.ltOf (cfE D)) 0 d.size d') :
  sortR D X=some (d'.toList.map fun p=>p.1.1):=by
 have hpp:=qDt hp
 have hsz:d'.size=d.size:=hp.1
 refine qwZ h ⟨(hpp.map fun p=>p.1.1).trans (.of_eq hd),zAx.2 (zAq.2 fun i j hi hj hij=>?_)⟩
 have hi':i<d'.size:=by simpa using hi
 have hj':j<d'.size:=by simpa using hj
 have:=hs i j (zAE _) hij (by omega)
 rw [qxV h,getElem!_pos d' i hi',getElem!_pos d' j hj'] at this
 simpa using this
theorem qBI{o:Nat}{x:O}(hx:getO h o=x)(hlt:o<h.length):h.set o x=h:=by
 apply zAY
 intro j
 rw [zAc]
 split
 ·rename_i e;subst e
  rw [<- hx]
  try rw [zJ hlt]
  unfold getO
  rw [zK,zW hlt]
  rfl
 ·rfl
theorem holds_of{F cur:Array Value}{blk:Nat}{e:TypeId}(hb:w.heap[blk]? = some (.cells cur e (0,0)))(hF:F.toList=cur.toList.take F.size):Go.Sort.Holds id w blk 0 F:=fun j hj=>by
 have h1:cur.toList[j]? = some F[j]:=by
  have:F.toList[j]? = some F[j]:=by rw [zp,zd hj]
  rw [hF,zt,zJ hj] at this
  exact this
 rw [zp] at h1
 have h2:F[j]! = F[j]:=getElem!_pos F j hj
 refine⟨?_,?_⟩
 ·rw [h2]
  simp [World.cell?,hb,h1]
 ·simp [World.frozen?,hb]
def e1{s:Sh}{M:Nat->Prop}{X:List s.den}(a:Elt w M s X):Value:=a.1.2.headD (.bool false)
theorem qCQ{s:Sh}(ha:s.isAgg=true){W:World}{M:Nat->Prop}{x:s.den}{c:List Value}(hr:RC W M s x c):RV W M [] σ0 (enc s x) (.agg c.toArray):=by
 have h1:RVs W M [] σ0 (encL s x) c:=qbM s hr
 have h2:=RC.one hr
 cases s with
 | int k=>cases ha
 | bool=>cases ha
 | unit=>simp only [enc,RV];exact⟨c.toArray,rfl,by simpa using h2,h1⟩
 | pair a b=>simp only [enc,RV];exact⟨c.toArray,rfl,by simpa using h2,h1⟩
 | sl s=>cases ha
noncomputable def mkS(f:Nat)(e:TypeId)(s:Sh)(g:Nat)(D:s.den->s.den->Option Int):Ent:=
 { f:=f,run:=fun args h=>match args with
  | [.slc o ver,.clo g' []]=>
   bif Nat.beq g g' then
    match getO h o with
    | .row fz ver' e' s' xs=>
     bif Nat.beq ver ver' && !fz&&Nat.beq e e' then
      match qbn (s:=.sl s') (s':=.sl s) xs with
      | none=>none
      | some xs=>some { α:=List s.den,r:=sortR D xs,v:=fun _=>.tup [],h:=some fun ys h=>h.set o (.row false ver e s ys) }
     else none
    | _=>none
   else none
  | _=>none }
theorem qzV{f:Nat}{e:TypeId}{s:Sh}{g:Nat}{D:s.den->s.den->Option Int}{args:List V}{H:List O}{p:Pkg}(hp:(mkS f e s g D).run args H=some p) :
  ∃ o ver xs,args = [.slc o ver,.clo g []]/\getO H o=.row false ver e s xs/\p = { α:=List s.den,r:=sortR D xs,v:=fun _=>.tup [],h:=some fun ys h=>h.set o (.row false ver e s ys) }:=by
 simp only [mkS] at hp
 split at hp
 ·rename_i o ver g'
  cases hg:Nat.beq g g' with
  | false=>rw [hg] at hp;cases hp
  | true=>
  rw [hg] at hp
  simp only [cond_true] at hp
  have hg:=zB hg
  subst hg
  cases eo:getO H o with
  | none=>rw [eo] at hp;cases hp
  | cells vs=>rw [eo] at hp;cases hp
  | oth fz z d=>rw [eo] at hp;cases hp
  | nst _ _ _=>rw [eo] at hp;cases hp
  | kds _ _ _ _ _=>rw [eo] at hp;cases hp
  | gone=>rw [eo] at hp;cases hp
  | row fz ver' e' s' xs=>
   rw [eo] at hp
   simp only at hp
   cases hc:(Nat.beq ver ver' && !fz&&Nat.beq e e') with
   | false=>rw [hc] at hp;cases hp
   | true=>
   rw [hc] at hp
   simp only [cond_true] at hp
   have hp3:=hp
   clear hp
   simp only [zA,zT] at hc
   obtain⟨⟨hv,rfl⟩,he⟩:=hc
   have hv:=zB hv
   have he:=zB he
   subst hv he
   split at hp3
   ·cases hp3
   ·rename_i xs' hx
    obtain⟨es,rfl⟩:=qau hx
    cases es
    cases hp3
    exact⟨o,ver,xs,rfl,eo,rfl⟩
 ·cases hp
theorem quk(R:Rep w0 A M0 w h σ){o ver:Nat}{e:TypeId}{s:Sh}{xs:List s.den}(eo:getO h o=.row false ver e s xs)(hne:xs ≠ []) :
  ∃ blk cur cs,(σ o).a=some blk/\(σ o).addr=some ⟨blk,0,none⟩/\w.heap[blk]? = some (.cells cur e (0,0))/\RL w (mutb M0 h σ) s xs cs/\cur.toList.take cs.length=cs/\cs.length<=cur.size:=by
 have ro:=R.obj o
 rw [eo] at ro
 obtain⟨hs1,cs,hown,hrl⟩:=ro
 rcases hown.2 with⟨_,hm⟩ | ⟨g,cap,cur,hgv,_,hg,hnc,hcm,hcs,htake⟩
 ·exact absurd (zY hm) hne
 have hla:=hgv
 simp only [rowV,Value.slice.injEq,true_and] at hla
 obtain⟨hla,-⟩:=hla
 refine⟨g,cur,cs,?_,hla,hg,hrl,by rw [hrl.length];exact htake,?_⟩
 ·cases ha:(σ o).a with
  | none=>simp [Loc.addr,ha] at hla
  | some b=>simp [Loc.addr,ha] at hla;rw [hla]
 ·rw [hrl.length,hcs];exact zy _ hnc
theorem qDW{g:Nat}(hg:Nat.blt g 1000000=true){W:World}{M:Nat->Prop}{v:Value}(hv:RV W M h σ (.clo g []) v):v=.func (.func g) #[] #[]:=by
 simp only [RV,RVs] at hv
 obtain⟨vs,rfl,h1⟩:=hv
 have:vs = #[]:=by apply Array.ext';exact h1
 subst this
 unfold cloV tgtF fstF capF
 rw [hg]
 rfl
theorem qBG{α:Type}{D:α->α->Option Int}{ys:List α}(h:sortR D []=some ys):ys = []:=List.Perm.eq_nil (qrp h).2.1
theorem qzK(R:Rep w0 A M0 w h σ){o ver:Nat}{e:TypeId}{s:Sh}(eo:getO h o=.row false ver e s []):Next w0 A M0 w h σ w (h.set o (.row false ver e s [])) σ:=by
 rw [qBI eo (qae (by rw [eo];simp))]
 exact Next.refl R
open Go.Proofs Go.Shelf in
theorem entSK{ρ:Ren}{g:Nat}{e:TypeId}{s:Sh}{Dc:Dens [.dat s,.dat s]->Option (Dens [.dat (.int .i64)])}(L:SlLaysF0.n6 P ρ)(aE:∀ w,(isAgg (ρ.t 24)).run P w=.ok true w)(zE:∀ w,(Go.sizeOf (ρ.t 24)).run P w=.ok s.n w)(hb:qeO P (ρ.f 6))(hgb:qeO P g)(hg:Nat.blt g 1000000=true)(hna:s.isAgg=true)
  (S:SpecD P gs g [.dat s,.dat s] [.dat (.int .i64)] Dc):EntOk P gs (mkS (ρ.f 6) e s g fun a b=>(Dc (a,b,())).map (·.1)) where
 fn:=fun _ _ _ _=>hb
 rd:=fun args h hm p y hsub hp hh=>by
  obtain⟨o,ver,xs,rfl,eo,rfl⟩:=qzV hp
  cases hh
 wr:=fun args h p u ys hp hu hr w0 A M0 w σ hgl R vs hv=>by
  classical
  obtain⟨o,ver,xs,rfl,eo,rfl⟩:=qzV hp
  cases hu
  simp only at hr ys ⊢
  simp only [RVs] at hv
  obtain⟨v1,_,rfl,hv1,v2,_,rfl,hv2,rfl⟩:=hv
  have hv2:=qDW hg hv2
  subst hv2
  simp only [RV] at hv1
  obtain⟨fz1,ver1,e1',s1,xs1,eo1,-,-,hx⟩:=hv1
  rw [eo] at eo1
  cases eo1
  have hx:=hx rfl
  subst hx
  obtain⟨hso,hst⟩:=qrp hr
  by_cases hne:xs = []
  ·subst hne
   obtain rfl:=qBG hr
   refine (AnyF.slices_SortFunc_none L (σ o).addr (σ o).cap (.func (.func g) #[] #[]) w).mono ?_
   rintro e' w' ⟨rfl,rfl⟩
   exact⟨_,σ,rfl,qzK R eo,by simp only [RV,RVs];exact⟨#[],rfl,rfl⟩⟩
  obtain⟨blk,cur,cs,ha,had,hcur,hrl,htake,hle⟩:=quk R eo hne
  obtain⟨l,l1,l2⟩:=elts xs cs hrl fun x hx=>hx
  have hlne:l ≠ []:=fun h0=>hne (by rw [<- l1,h0];rfl)
  letI:Inhabited (Elt w (mutb M0 h σ) s xs):=⟨l.head hlne⟩
  have hk:∀ a:Elt w (mutb M0 h σ) s xs,a.1.2.length=s.n:=fun a=>a.2.2.length
  have hF:(Go.Sort.flatK (fun a:Elt w (mutb M0 h σ) s xs=>a.1.2) s.n l.toArray).toList=cs:=by rw [qrN _ _ hk,<- l2]
  have hFs:(Go.Sort.flatK (fun a:Elt w (mutb M0 h σ) s xs=>a.1.2) s.n l.toArray).size=cs.length:=by rw [<- hF];simp
  have hH:=holds_of (F:=Go.Sort.flatK (fun a:Elt w (mutb M0 h σ) s xs=>a.1.2) s.n l.toArray) hcur (by rw [hF,hFs,htake])
  have hll:l.toArray.size=xs.length:=by have:=congrArg List.length l1;simpa using this
  have hlive:live (getO h o):=by rw [eo];rfl
  have hsz:l.toArray.size<4611686018427387904:=by rw [hll];exact hso.lt
  have key:=AnyQ.slices_SortFunc (α:=Elt w (mutb M0 h σ) s xs) L s.n aE zE (fun a=>a.1.2) hk (fun a=>a.2.2.one) (cfE fun a b=>(Dc (a,b,())).map (·.1)) (qDY hso) g #[] blk 0 (σ o).cap l.toArray w
   (by obtain⟨f,c,q1,q2,q3⟩:=hgb;exact enters_of q1 q2 q3) (fun m os dk hdk a b=>?_) hH (zI.1 hcur).1 hsz
  ·have hargs:(#[.slice (σ o).addr xs.length (σ o).cap,.func (.func g) #[] #[]]:Array Value) = #[.slice (some ⟨blk,0,none⟩) l.toArray.size (σ o).cap,.func (.func g) #[] #[]]:=by rw [had,hll]
   show Calls P (ρ.f 6) #[.slice (σ o).addr xs.length (σ o).cap,.func (.func g) #[] #[]] w _
   rw [hargs]
   refine key.mono ?_
   rintro e' w' ⟨rfl,d',n,os,hp1,hp2,rfl⟩
   have hres:=qBF hso (d:=l.toArray) (by simpa using l1) hp1 hp2
   rw [hr] at hres
   cases hres
   refine⟨_,σ,rfl,qzq R eo ha (by simpa using (hp1.1.trans hll)) ?_ n os,by simp only [RV,RVs];exact⟨#[],rfl,rfl⟩⟩
   rw [qrN _ _ hk]
   exact qAN _
  ·obtain⟨c,hc⟩:=hso.tot _ a.2.1 _ b.2.1
   have hc':=hc
   obtain⟨⟨c',⟨⟩⟩,hc2,hc3⟩:=zw.1 hc
   have e2:cfE (fun a b=>(Dc (a,b,())).map (·.1)) a b=c':=by
    show (match (Dc (a.1.1,b.1.1,())).map (·.1) with | some c=>c | none=>0)=c'
    rw [hc']
    exact hc3.symm
   rw [e2]
   exact qEC S hgl R hlive ha (fun W hW=>qCQ hna hW) (fun W hW=>qCQ hna hW) hc2 m _ os
end
end Go.Abs
