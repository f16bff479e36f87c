import Derived.Test.YtnhjpicdijeagaaDoorAbsCore
import Derived.Below
import Derived.RangeFuncNested
import Derived.RangeFuncLeaves
namespace Go.Abs
open Go.RowKit
def TDr(w w':World):Prop:=w'.tape=w.tape/\w.drawn<=w'.drawn
theorem TDr.trans{a b c:World}(h:TDr b c)(k:TDr a b):TDr a c:=⟨h.1.trans k.1,zn k.2 h.2⟩
theorem TDr.rfl{w:World}:TDr w w:=⟨Eq.refl _,Nat.le_refl _⟩
structure Below (B:Nat) (w w':World):Prop where
 os:w'.os=w.os
 tape:TDr w w'
 output:w'.output=w.output
 size:w.heap.size<=w'.heap.size
 block:∀ k,k<B->w'.heap[k]? = w.heap[k]?
theorem Below.refl(B:Nat)(w:World):Below B w w:=⟨rfl,TDr.rfl,rfl,Nat.le_refl _,fun _ _=>rfl⟩
theorem Below.old{B:Nat}{w w':World}(h:Below B w w'):Go.RowKit.Below B w w':=⟨h.os,h.tape.1,h.output,h.size,h.block⟩
theorem Below.of{B:Nat}{w w':World}(h:Go.RowKit.Below B w w')(hd:w.drawn<=w'.drawn):Below B w w':=⟨h.os,⟨h.tape,hd⟩,h.output,h.size,h.block⟩
theorem Below.trans{B:Nat}{a b c:World}(h:Below B a b)(k:Below B b c):Below B a c:=
 ⟨k.os.trans h.os,k.tape.trans h.tape,k.output.trans h.output,zn h.size k.size,fun i hi=>(k.block i hi).trans (h.block i hi)⟩
theorem Below.mono{B B':Nat}{w w':World}(h:Below B w w')(hB:B'<=B):Below B' w w':=⟨h.os,h.tape,h.output,h.size,fun k hk=>h.block k (zM hk hB)⟩
theorem Below.drew{B:Nat}{a w:World}(h:Below B a w):Below B a w.drew:=⟨h.os,⟨h.tape.1,Nat.le_succ_of_le h.tape.2⟩,h.output,h.size,h.block⟩
theorem Below.heap_alloc(w:World)(o:Obj)(k:Nat)(h:k<w.heap.size):(w.alloc o).heap[k]? = w.heap[k]?:=Go.RowKit.Below.heap_alloc w o k h
theorem Below.alloc{B:Nat}{a w:World}(h:Below B a w)(hB:B<=w.heap.size)(o:Obj):Below B a (w.alloc o):=
 h.trans ⟨rfl,TDr.rfl,rfl,by simp,fun k hk=>Below.heap_alloc _ _ _ (by omega)⟩
theorem Below.setCell{B:Nat}{a w:World}(h:Below B a w){p:Addr}(hp:B<=p.block)(u:Value):Below B a (w.setCell p u):=
 h.trans ⟨rfl,TDr.rfl,rfl,by simp [World.setCell],fun k hk=>Go.RowKit.Below.heap_setCell _ _ _ _ (by omega)⟩
theorem Below.cell{B:Nat}{w w':World}(h:Below B w w'){p:Addr}(hp:p.block<B):w'.cell? p=w.cell? p:=World.cell?_of_block (w:=w) (h.block p.block hp)
structure Loc where
 a:Option Nat
 cap:Nat
 ex:List Nat:=[]
def Loc.addr(l:Loc):Option Addr:=l.a.map fun b=>⟨b,0,none⟩
def Loc.cp(l:Loc):Nat:=l.cap % 9223372036854775808
def Loc.off(l:Loc):Nat:=l.cap / 9223372036854775808
def Loc.adr(l:Loc):Option Addr:=l.a.map fun b=>⟨b,l.off,none⟩
def maxI:Nat:=9223372036854775807
def qkD(w:World)(b q:Nat)(cs:List Value):Prop:=∀ j v,cs[j]? = some v->w.cell? ⟨b,q+j,none⟩=some v
def qay(w:World)(b q:Nat)(cs:List Value):Prop:=∀ j v,cs[j]? = some v->w.cell? ⟨b,q+j,none⟩=some v/\w.frozen? ⟨b,q+j,none⟩=false
theorem qay.g{w:World}{b q:Nat}{cs:List Value}(h:qay w b q cs):qkD w b q cs:=fun j v hj=>(h j v hj).1
instance {w:World} {b q:Nat} {cs:List Value}:Coe (qay w b q cs) (qkD w b q cs):=⟨qay.g⟩
theorem qay.moved{w w':World}{b q:Nat}{cs:List Value}(h:qay w b q cs)(hb:w'.heap[b]? = w.heap[b]?):qay w' b q cs:=fun j v hj=>⟨(World.cell?_of_block (w:=w) hb).trans (h j v hj).1,(World.frozen?_of_block (w:=w) hb).trans (h j v hj).2⟩
theorem qay.own{w:World}{b q:Nat}{cs:List Value}{c:Array Value}{e:TypeId}(hb:w.heap[b]? = some (.cells c e (0,0)))(h:qkD w b q cs):qay w b q cs:=fun j v hj=>⟨h j v hj,by simp [World.frozen?,hb]⟩
def RowAt{α:Type}(R:α->List Value->Prop)(n:Nat)(w:World)(b q:Nat)(xs:List α):Prop:=
 ∀ i x,xs[i]? = some x->∃ cs,qay w b (q+i*n) cs/\R x cs
def RC(w:World)(M:Nat->Prop):(s:Sh)->s.den->List Value->Prop
 | .int k,n,cs=>cs = [.int k n]
 | .bool,b,cs=>cs = [.bool b]
 | .unit,_,cs=>cs = []
 | .pair a b,x,cs=>∃ c d,cs=c++d/\RC w M a x.1 c/\RC w M b x.2 d
 | .sl s,xs,cs=>∃ a cap,cs = [.slice a xs.length cap]/\xs.length<=cap/\cap<=maxI /\
   (xs ≠ []->∃ b q,a=some ⟨b,q,none⟩/\b<w.heap.size/\¬ M b/\RowAt (RC w M s) s.n w b q xs)
theorem RC.length{w:World}{M:Nat->Prop}:{s:Sh} -> {x:s.den} -> {cs:List Value}->RC w M s x cs->cs.length=s.n
 | .int _,_,_,h=>by simp only [RC] at h;simp [h,Sh.n]
 | .bool,_,_,h=>by simp only [RC] at h;simp [h,Sh.n]
 | .unit,_,_,h=>by simp only [RC] at h;simp [h,Sh.n]
 | .pair _ _,_,_,h=>by
  simp only [RC] at h
  obtain⟨c,d,rfl,h1,h2⟩:=h
  simp [Sh.n,RC.length h1,RC.length h2]
 | .sl _,_,_,h=>by
  simp only [RC] at h
  obtain⟨a,cap,rfl,_⟩:=h
  simp [Sh.n]
structure Keeps (w:World) (M:Nat->Prop) (w':World) (M':Nat->Prop):Prop where
 size:w.heap.size<=w'.heap.size
 block:∀ b,b<w.heap.size->¬ M b->w'.heap[b]? = w.heap[b]?
 out:∀ b,b<w.heap.size->¬ M b->¬ M' b
theorem Keeps.cells{w w':World}{M M':Nat->Prop}(k:Keeps w M w' M'){b q:Nat}{cs:List Value}(hb:b<w.heap.size)(hm:¬ M b)(h:qay w b q cs):qay w' b q cs:=
 h.moved (k.block b hb hm)
theorem RC.keeps{w w':World}{M M':Nat->Prop}(k:Keeps w M w' M'):{s:Sh} -> {x:s.den} -> {cs:List Value}->RC w M s x cs->RC w' M' s x cs
 | .int _,_,_,h=>by simp only [RC] at h ⊢;exact h
 | .bool,_,_,h=>by simp only [RC] at h ⊢;exact h
 | .unit,_,_,h=>by simp only [RC] at h ⊢;exact h
 | .pair _ _,_,_,h=>by
  simp only [RC] at h ⊢
  obtain⟨c,d,rfl,h1,h2⟩:=h
  exact⟨c,d,rfl,RC.keeps k h1,RC.keeps k h2⟩
 | .sl s,xs,_,h=>by
  simp only [RC] at h ⊢
  obtain⟨a,cap,rfl,hl,hc,h⟩:=h
  refine⟨a,cap,rfl,hl,hc,fun hne=>?_⟩
  obtain⟨b,q,ha,hb,hm,hr⟩:=h hne
  refine⟨b,q,ha,zM hb k.size,k.out b hb hm,fun i x hx=>?_⟩
  obtain⟨cs,hcs,hR⟩:=hr i x hx
  exact⟨cs,k.cells hb hm hcs,RC.keeps k hR⟩
def TlV(l:Loc)(n len a:Nat)(v:Value):Prop:=a<=len/\∃ ad,v=.slice ad (len - a) (l.cap - a)/\(a<len->∃ b,l.a=some b/\ad=some ⟨b,a*n,none⟩)
theorem RC.tl{w:World}{M:Nat->Prop}{s:Sh}{xs:List s.den}{l:Loc}{a:Nat}{v:Value}(h:RC w M (.sl s) xs [.slice l.addr xs.length l.cap])(ht:TlV l s.n xs.length a v):RC w M (.sl s) (xs.drop a) [v]:=by
 obtain⟨ha,ad,rfl,hd⟩:=ht
 simp only [RC] at h ⊢
 obtain⟨ad0,cap,e,h1,h2,h3⟩:=h
 simp only [zz,Value.slice.injEq,and_true,true_and] at e
 obtain⟨e1,e2⟩:=e
 refine⟨ad,l.cap - a,by rw [zAI],by rw [zAI];omega,by omega,fun hne=>?_⟩
 have hlt:a<xs.length:=by
  rcases zAO a xs.length with h | h
  ·exact h
  ·exact absurd (zAm h) hne
 obtain⟨b,hb,rfl⟩:=hd hlt
 obtain⟨b',q,e3,h4,h5,h6⟩:=h3 (fun e=>by rw [e] at hlt;simp at hlt)
 rw [<- e1,Loc.addr,hb] at e3
 simp only [Option.map_some,zD,Addr.mk.injEq,and_true] at e3
 obtain⟨rfl,rfl⟩:=e3
 refine⟨b,a*s.n,rfl,h4,h5,fun i x hi=>?_⟩
 rw [zAB] at hi
 obtain⟨cs,hc,hR⟩:=h6 _ x hi
 refine⟨cs,fun j u hj=>?_,hR⟩
 have:=hc j u hj
 rwa [Nat.zero_add,zBd] at this
def PtrTo:O->Nat->Nat->Value->Prop
 | .cells _,b,off,v=>v=.pointer (some ⟨b,off,none⟩)
 | .oth _ q _,b,off,v=>off=1000000/\v=bif q.it then .pointer (some ⟨b,0,none⟩) else .map (some b)
 | .nst _ q _,b,off,v=>off=1000000/\v=bif q.it then .pointer (some ⟨b,0,none⟩) else .map (some b)
 | .kds _ p _ _ _,b,off,v=>p.isMap=true/\off=1000000/\v=.map (some b)
 | .gone,b,off,v=>v.cells.toList = [v]/\v.oneCell'=true/\(off≠1000000->v=.pointer (some ⟨b,off,none⟩))
 | _,_,_,_=>False
def kLen:(p:Kp)->(t:Kt)->(p.sh t).den->Nat
 | .map _ _ _,_,d=>d.2.length
 | .row _,_,d=>d.length
def RefTo:O->Loc->(ver i off:Nat)->Value->Prop
 | .row _ ver' _ s xs,l,ver,i,off,v=>ver<=ver'/\v.oneCell'=true/\(ver=ver'->∃ b,l.a=some b/\i<xs.length/\v=.pointer (some ⟨b,i*s.n+off,none⟩))
 | .nst ver' _ _,l,ver,i,off,v=>ver<=ver'/\v.oneCell'=true/\(ver=ver'->off=1000000/\∃ c,l.ex[i]? = some c/\v=.map (some c))
 | .kds ver' p t _ d,l,ver,i,off,v=>p.isMap=false/\ver<=ver'/\v.oneCell'=true/\(ver=ver'->(off=2000000/\v=.slice l.adr (kLen p t d) l.cp)\/(off≠2000000/\∃ b,l.a=some b/\i<kLen p t d/\v=.pointer (some ⟨b,l.off+i*t.n+off,none⟩)))
 | .gone,_,_,_,_,v=>v.oneCell'=true
 | _,_,_,_,_,_=>False
def TlTo:O->Loc->(ver a:Nat)->Value->Prop
 | .row _ ver' _ s xs,l,ver,a,v=>ver<=ver'/\v.oneCell'=true/\(ver=ver'->TlV l s.n xs.length a v)
 | .cells _,l,_,a,v=>∃ b,l.a=some b/\v=.slice (some ⟨b,a % 1000000,none⟩) (a / 1000000) (a / 1000000)
 | .gone,_,_,_,v=>v.oneCell'=true
 | _,_,_,_,_=>False
mutual
def RV(w:World)(M:Nat->Prop)(h:List O)(σ:Nat->Loc):V->Value->Prop
 | .bad,_=>True
 | .undef,v=>v=undef
 | .int k n,v=>v=.int k n
 | .bool b,v=>v=.bool b
 | .nlt neg e,v=>∃ b:Bool,v=.bool (xor b neg)/\(e=false->b=false)
 | .nil,v=>v=.slice none 0 0
 | .nl k,v=>v=k.val
 | .ifc ty u,v=>∃ x,v=.iface ty x/\RV w M h σ u x
 | .sl s xs,v=>RC w M (.sl s) xs [v]
 | .slc o ver,v=>∃ fz ver' e s xs,getO h o=.row fz ver' e s xs/\ver<=ver'/\v.oneCell'=true/\(ver=ver'->v=.slice (σ o).addr xs.length (σ o).cap)
 | .ptr o off,v=>∃ b,(σ o).a=some b/\PtrTo (getO h o) b off v
 | .rptr o ver i off,v=>RefTo (getO h o) (σ o) ver i off v
 | .tl o ver a,v=>TlTo (getO h o) (σ o) ver a v
 | .fptr s x,v=>∃ b q cs,v=.pointer (some ⟨b,q,none⟩)/\b<w.heap.size/\¬ M b/\qay w b q cs/\RC w M s x cs
 | .yld l,v=>v=.func (.yield l) #[] #[]
 | .pptr s x,v=>∃ b q b' q' cs,v=.pointer (some ⟨b,q,none⟩)/\b<w.heap.size/\¬ M b/\qay w b q [.pointer (some ⟨b',q',none⟩)]/\b'<w.heap.size/\¬ M b'/\qay w b' q' cs/\RC w M s x cs
 | .clo f caps,v=>∃ vs:Array Value,v=cloV f vs/\RVs w M h σ caps vs.toList
 | .agg vs,v=>∃ cs:Array Value,v=.agg cs/\(∀ c∈cs.toList,c.oneCell'=true)/\RVs w M h σ vs cs.toList
 | .tup vs,v=>∃ cs:Array Value,v=.tuple cs/\RVs w M h σ vs cs.toList
def RVs(w:World)(M:Nat->Prop)(h:List O)(σ:Nat->Loc):List V->List Value->Prop
 | [],cs=>cs = []
 | v :: r,cs=>∃ x xs,cs=x :: xs/\RV w M h σ v x/\RVs w M h σ r xs
end
def live:O->Prop
 | .cells _=>True
 | .row fz _ _ _ _=>fz=false
 | .oth fz _ _=>fz=false
 | .nst _ _ _=>True
 | .kds _ _ _ _ _=>True
 | .gone=>False
 | .none=>False
def Oat:O->Loc->Nat->Prop
 | .nst _ _ _,l,b=>l.a=some b\/b∈l.ex
 | .kds _ _ _ _ _,l,b=>l.a=some b\/b∈l.ex
 | _,l,b=>l.a=some b
theorem Oat.of{o:O}{l:Loc}{b:Nat}(h:l.a=some b):Oat o l b:=by cases o <;> first | exact h | exact .inl h
def flatO:O->Prop
 | .nst _ _ _=>False
 | .kds _ _ _ _ _=>False
 | _=>True
theorem Oat.flat{o:O}{l:Loc}{b:Nat}(hf:flatO o)(h:Oat o l b):l.a=some b:=by cases o <;> first | exact h | exact hf.elim
def own(h:List O)(σ:Nat->Loc)(b:Nat):Prop:=∃ o,live (getO h o)/\Oat (getO h o) (σ o) b
def mutb(M0:Nat->Prop)(h:List O)(σ:Nat->Loc)(b:Nat):Prop:=M0 b\/own h σ b
def RL(w:World)(M:Nat->Prop)(s:Sh):List s.den->List Value->Prop
 | [],cs=>cs = []
 | x :: xs,cs=>∃ c d,cs=c++d/\RC w M s x c/\RL w M s xs d
abbrev σ0:Nat->Loc:=fun _=>⟨none,0,[]⟩
def rowV(l:Loc)(n:Nat):Value:=.slice l.addr n l.cap
structure ME (w:World) (M:Nat->Prop) (k v:Sh) (x:Int×(k.den×v.den)) (e:MapEntry):Prop where
 born:(e.born:Int)=x.1
 key:RV w M [] σ0 (enc k x.2.1) e.key
 val:RV w M [] σ0 (enc v x.2.2) e.val
def MEs(w:World)(M:Nat->Prop)(k v:Sh):List (Int×(k.den×v.den))->List MapEntry->Prop
 | [],es=>es = []
 | x :: xs,es=>∃ e r,es=e :: r/\ME w M k v x e/\MEs w M k v xs r
def leftL(es:Array MapEntry)(seen:Array Nat):List MapEntry:=(es.filter fun e=>!seen.contains e.born).toList
def RQ(w:World)(M:Nat->Prop)(l:Loc)(q:Oth)(d:q.sh.den):Prop:=
 match q.it with
 | false=>∃ b es clock,l.a=some b/\w.heap[b]? = some (.map es clock)/\(clock:Int)=d.1/\MEs w M q.k q.v d.2 es.toList/\(∀ x∈es.toList,x.born<clock)/\(es.toList.map (·.born)).Nodup
 | true=>∃ b bm since last seen es clock,l.a=some b/\w.heap[b]? = some (.mapIter (some bm) since seen last)/\bm<w.heap.size/\¬ M bm/\w.heap[bm]? = some (.map es clock)/\(∀ x∈es.toList,x.born<since)/\(since<=last/\since<=clock) /\
   (es.toList.map (·.born)).Nodup/\MEs w M q.k q.v (restE (k:=q.k) (v:=q.v) d) (leftL es seen) /\
   (d.1=1->∃ (e:MapEntry) (s0:Array Nat) (x:Int×(q.k.den×q.v.den)) (r:List (Int×(q.k.den×q.v.den))),e∈es.toList/\seen=s0.push e.born/\last=clock/\d.2=x :: r/\ME w M q.k q.v x e)
def UnQ(q:Oth)(d d':q.sh.den):Prop:=match q.un with | true=>UnE q.k q.v d d' | false=>d'=d
def RU(w:World)(M:Nat->Prop)(l:Loc)(q:Oth)(d:q.sh.den):Prop:=∃ d',UnQ q d d'/\RQ w M l q d'
theorem UnQ.refl(q:Oth)(d:q.sh.den):UnQ q d d:=by
 unfold UnQ
 split
 ·exact List.Perm.refl _
 ·rfl
theorem RQ.u{w:World}{M:Nat->Prop}{l:Loc}{q:Oth}{d:q.sh.den}(r:RQ w M l q d):RU w M l q d:=⟨d,UnQ.refl q d,r⟩
theorem RU.q{w:World}{M:Nat->Prop}{l:Loc}{q:Oth}{d:q.sh.den}(r:RU w M l q d)(h:q.un=false):RQ w M l q d:=by
 obtain⟨d',h1,h2⟩:=r
 unfold UnQ at h1
 rw [h] at h1
 simp only at h1
 rwa [h1] at h2
def KidAt(w:World)(M:Nat->Prop):(kd:Kid)->kd.sh.den->Nat->Value->Prop
 | .map q,x,c,v=>v=.map (some c)/\q.it=false/\RQ w M ⟨some c,0,[]⟩ q x
 | .row e s,xs,c,v=>∃ cap cs,v=rowV ⟨some c,cap,[]⟩ xs.length/\1<=s.n/\w.ownsRow 0 e s.n v xs.length cs/\RL w M s xs cs
def NEs(w:World)(M:Nat->Prop)(k:Sh)(kd:Kid):List (Int×(k.den×kd.sh.den))->List MapEntry->List Nat->Prop
 | [],es,bs=>es = []/\bs = []
 | x :: xs,es,bs=>∃ e r c cs,es=e :: r/\bs=c :: cs/\(e.born:Int)=x.1/\RV w M [] σ0 (enc k x.2.1) e.key/\KidAt w M kd x.2.2 c e.val/\NEs w M k kd xs r cs
def RN(w:World)(M:Nat->Prop)(l:Loc)(q:Nst)(d:q.sh.den):Prop:=
 match q.it with
 | false=>∃ b es clock,l.a=some b/\w.heap[b]? = some (.map es clock)/\(clock:Int)=d.1/\NEs w M q.k q.kd d.2 es.toList l.ex/\(∀ x∈es.toList,x.born<clock)/\(es.toList.map (·.born)).Nodup/\(b :: l.ex).Nodup
 | true=>∃ b bm since last seen es clock,l.a=some b/\w.heap[b]? = some (.mapIter (some bm) since seen last)/\bm<w.heap.size/\¬ M bm/\w.heap[bm]? = some (.map es clock)/\(∀ x∈es.toList,x.born<since)/\(since<=last/\since<=clock) /\
   (es.toList.map (·.born)).Nodup/\(b :: l.ex).Nodup/\∃ cs,NEs w M q.k q.kd (restE (k:=q.k) (v:=q.kd.sh) d) (leftL es seen) cs/\((d.1≠1/\l.ex=cs) \/
    ∃ (e:MapEntry) (s0:Array Nat) (x:Int×(q.k.den×q.kd.sh.den)) (r:List (Int×(q.k.den×q.kd.sh.den))) (c:Nat),d.1=1/\e∈es.toList/\seen=s0.push e.born/\last=clock/\d.2=x :: r/\NEs w M q.k q.kd [x] [e] [c]/\l.ex=c :: cs)
def KV(w:World)(M:Nat->Prop):(t:Kt)->t.sh.den->Value->List Nat->Prop
 | .row e s,xs,v,bs=>∃ (l:Loc) (cs:List Value),v=rowV l xs.length/\1<=s.n/\w.ownsRow 0 e s.n v xs.length cs/\RL w M s xs cs/\bs=l.a.toList
 | _,_,_,_=>False
def KVs(w:World)(M:Nat->Prop)(t:Kt):List t.sh.den->List Value->Option Nat->List Nat->Prop
 | [],vs,_,bs=>vs = []/\bs = []
 | x :: xs,vs,hl,bs=>∃ v r b1 b2,vs=v :: r/\bs=b1++b2/\((hl=some 0/\b1 = [])\/(hl≠some 0/\KV w M t x v b1))/\KVs w M t xs r (match hl with | some (n+1)=>some n | _=>none) b2
def KKs(w:World)(M:Nat->Prop)(k:Sh){α:Type}:List (Int×(k.den×α))->List MapEntry->Prop
 | [],es=>es = []
 | x :: xs,es=>∃ e r,es=e :: r/\(e.born:Int)=x.1/\RV w M [] σ0 (enc k x.2.1) e.key/\KKs w M k xs r
def holeM(k v:Sh)(hl:Option k.den)(d:Mp k v):Option Nat:=match hl with | none=>none | some y=>bif mpHas k v d y then some (ixL k v y d.2) else none
def hlo(n:Nat):Option (Nat×V)->Option (Nat×V)
 | none=>none
 | some x=>bif Nat.blt x.1 n then some x else none
def hhi(n:Nat):Option (Nat×V)->Option (Nat×V)
 | none=>none
 | some x=>bif Nat.blt x.1 n then none else some (x.1 - n,x.2)
def KLs{α:Type}(n:Nat)(R:α->List Value->Option (Nat×V)->List Nat->Prop):List α->List Value->Option (Nat×V)->List Nat->Prop
 | [],cs,hl,bs=>cs = []/\hl=none/\bs = []
 | x :: xs,cs,hl,bs=>∃ c r b1 b2,cs=c++r/\bs=b1++b2/\c.length=n/\R x c (hlo n hl) b1/\KLs n R xs r (hhi n hl) b2
def OwnK(w:World)(e:TypeId)(n:Nat)(l:Loc)(m:Nat)(cs:List Value):Prop:=
 cs.length=m*n/\((l.a=none/\m=0/\l.cap=0)\/∃ g cur,l.a=some g/\w.heap[g]? = some (.cells cur e (0,0))/\m<=l.cp/\l.off+l.cp*n<=cur.size/\(cur.toList.drop l.off).take (m*n)=cs)
def rowK(l:Loc)(n:Nat):Value:=.slice l.adr n l.cp
def outK(L:V->Value->Prop)(hl:Nat×V)(cs:List Value)(bs:List Nat):Prop:=hl.1=0/\bs = []/\∃ c,cs = [c]/\c.oneCell'=true/\L hl.2 c
def KW(w:World)(M:Nat->Prop)(L:V->Value->Prop):(t:Kt)->t.sh.den->List Value->Option (Nat×V)->List Nat->Prop
 | .dat s,x,cs,hl,bs=>hl=none/\bs = []/\RC w M s x cs
 | .pair a b,x,cs,hl,bs=>∃ c d b1 b2,cs=c++d/\bs=b1++b2/\c.length=a.n/\KW w M L a x.1 c (hlo a.n hl) b1/\KW w M L b x.2 d (hhi a.n hl) b2
 | .row e s,x,cs,hl,bs=>
  match hl with
  | some y=>outK L y cs bs
  | none=>∃ c,cs = [c]/\KV w M (.row e s) x c bs
 | .krow e t,x,cs,hl,bs=>
  match hl with
  | some y=>outK L y cs bs
  | none=>∃ (l:Loc) (vs:List Value) (ex:List Nat),cs = [rowK l x.length]/\1<=t.n/\OwnK w e t.n l x.length vs/\KLs t.n (KW w M L t) x vs none ex/\bs=l.a.toList++ex
 | .map q,x,cs,hl,bs=>
  match hl with
  | some y=>outK L y cs bs
  | none=>(x.1 = -1/\x.2 = []/\(∃ c,cs = [c]/\c.oneCell'=true)/\bs = [])\/∃ c,cs = [.map (some c)]/\q.it=false/\q.un=false/\RQ w M ⟨some c,0,[]⟩ q x/\bs = [c]
 | .box e t,x,cs,hl,bs=>
  match hl with
  | some y=>outK L y cs bs
  | none=>(x.1=false/\(∃ c,cs = [c]/\c.oneCell'=true)/\bs = [])\/∃ c vs ex e',x.1=true/\cs = [.pointer (some ⟨c,0,none⟩)]/\w.heap[c]? = some (.cells vs e' (0,0))/\KW w M L t x.2 vs.toList none ex/\bs=c :: ex
def holeR(hl:Option (Int×V)):Option (Nat×V):=hl.map fun x=>(x.1.toNat,x.2)
def RK(w:World)(M:Nat->Prop)(L:V->Value->Prop)(l:Loc):(p:Kp)->(t:Kt)->Option (p.ix.den×V)->(p.sh t).den->Prop
 | .map _ _ k,t,hl,d=>∃ b es clock,l.a=some b/\w.heap[b]? = some (.map es clock)/\(clock:Int)=d.1/\KKs w M k d.2 es.toList/\KVs w M t (d.2.map (·.2.2)) (es.toList.map (·.val)) (holeM k t.sh (hl.map (·.1)) d) l.ex /\
   (∀ x∈es.toList,x.born<clock)/\(es.toList.map (·.born)).Nodup/\(b :: l.ex).Nodup
 | .row e,t,hl,d=>1<=t.n/\∃ vs,OwnK w e t.n l d.length vs/\KLs t.n (KW w M L t) d vs (holeR hl) l.ex/\(l.a.toList++l.ex).Nodup
def RO(w:World)(M:Nat->Prop)(h:List O)(σ:Nat->Loc)(l:Loc):O->Prop
 | .none=>True
 | .cells vs=>∃ (b:Nat) (e:TypeId) (cs:Array Value),l.a=some b/\w.heap[b]? = some (.cells cs e (0,0))/\RVs w M h σ vs cs.toList/\(∀ c∈cs.toList,c.oneCell'=true)
 | .row true _ _ s xs=>1<=s.n/\RC w M (.sl s) xs [rowV l xs.length]/\(∀ b,l.a=some b->b<w.heap.size/\¬ M b)
 | .row false _ e s xs=>1<=s.n/\∃ cs,w.ownsRow 0 e s.n (rowV l xs.length) xs.length cs/\RL w M s xs cs
 | .oth fz q xs=>RU w M l q xs/\(fz=true->∀ b,l.a=some b->¬ M b)
 | .nst _ q d=>RN w M l q d
 | .kds _ p t hl d=>RK w M (RV w M h σ) l p t hl d
 | .gone=>True
structure Fr (w0:World) (A:Nat->Prop) (w:World):Prop where
 os:w.os=w0.os
 tape:TDr w0 w
 output:w.output=w0.output
 size:w0.heap.size<=w.heap.size
 block:∀ b,b<w0.heap.size->¬ A b->w.heap[b]? = w0.heap[b]?
structure Rep (w0:World) (A M0:Nat->Prop) (w:World) (h:List O) (σ:Nat->Loc):Prop where
 fr:Fr w0 A w
 m0:∀ b,M0 b->b<w0.heap.size/\¬ A b
 inA:∀ b,own h σ b->A b\/w0.heap.size<=b
 apart:∀ o o' b,live (getO h o)->live (getO h o')->Oat (getO h o) (σ o) b->Oat (getO h o') (σ o') b->o=o'
 obj:∀ o,RO w (mutb M0 h σ) h σ (σ o) (getO h o)
def mapLk(it:Bool):O->Prop
 | .oth _ q _=>q.it=it
 | .kds _ p _ _ _=>it=false/\p.isMap=true
 | _=>False
def KStep(ver:Nat)(p:Kp)(n tn:Nat)(l:Loc)(o':O)(l':Loc):Prop:=
 match p.isMap with
 | true=>(mapLk false o'\/o'=.gone)/\l'.a=l.a
 | false=>(∃ ver' p' t' hl' d',o'=.kds ver' p' t' hl' d'/\p'.isMap=false/\ver<=ver'/\(ver=ver'->l'.a=l.a/\l'.cap=l.cap/\kLen p' t' d'=n/\t'.n=tn))\/o'=.gone
def OStep(h:List O)(σ:Nat->Loc)(h':List O)(σ':Nat->Loc):Prop:=
 ∀ o,match getO h o with
  | .none=>True
  | .cells _=>(∃ vs',getO h' o=.cells vs'/\σ' o=σ o)\/(getO h' o=.gone/\(σ' o).a=(σ o).a)
  | .row _ ver _ s xs=>∃ fz' ver' e' s' xs',getO h' o=.row fz' ver' e' s' xs'/\ver<=ver'/\(ver=ver'->σ' o=σ o/\s'=s/\xs'.length=xs.length)
  | .oth _ q _=>(mapLk q.it (getO h' o)\/getO h' o=.gone)/\(σ' o).a=(σ o).a
  | .kds ver p t _ d=>KStep ver p (kLen p t d) t.n (σ o) (getO h' o) (σ' o)
  | .nst ver q _=>(∃ ver' xs',getO h' o=.nst ver' q xs'/\ver<=ver'/\(σ' o).a=(σ o).a/\(ver=ver'->∀ i c:Nat,(σ o).ex[i]? = some c->(σ' o).ex[i]? = some c))\/(getO h' o=.gone/\(σ' o).a=(σ o).a)
  | .gone=>getO h' o=.gone/\(σ' o).a=(σ o).a
theorem PtrTo.one{o:O}{b off:Nat}{v:Value}(h:PtrTo o b off v):v.cells.toList = [v]/\v.oneCell'=true:=by
 cases o with
 | none=>exact h.elim
 | row fz ver e s xs=>exact h.elim
 | cells vs=>simp only [PtrTo] at h;subst h;exact⟨rfl,rfl⟩
 | oth fz q d=>
  obtain⟨-,h⟩:=h
  subst h
  cases q.it <;> exact⟨rfl,rfl⟩
 | nst ver q d=>
  obtain⟨-,h⟩:=h
  subst h
  cases q.it <;> exact⟨rfl,rfl⟩
 | kds ver p t hl d=>
  obtain⟨-,-,rfl⟩:=h
  exact⟨rfl,rfl⟩
 | gone=>exact⟨h.1,h.2.1⟩
theorem PtrTo.gone{o:O}{b off:Nat}{v:Value}(h:PtrTo o b off v):PtrTo .gone b off v:=by
 refine⟨h.one.1,h.one.2,fun ho=>?_⟩
 cases o with
 | none=>exact h.elim
 | row fz ver e s xs=>exact h.elim
 | cells vs=>exact h
 | oth fz q d=>exact absurd h.1 ho
 | nst ver q d=>exact absurd h.1 ho
 | kds ver p t hl d=>exact absurd h.2.1 ho
 | gone=>exact h.2.2 ho
theorem PtrTo.low{o:O}{b off:Nat}{v:Value}(h:PtrTo o b off v)(hl:Nat.blt off 1000000=true):v=.pointer (some ⟨b,off,none⟩)/\∀ off',PtrTo o b off' (.pointer (some ⟨b,off',none⟩)):=by
 cases o with
 | none=>exact h.elim
 | row fz ver e s xs=>exact h.elim
 | cells vs=>exact⟨h,fun _=>rfl⟩
 | oth fz q d=>obtain⟨rfl,-⟩:=h;cases hl
 | nst ver q d=>obtain⟨rfl,-⟩:=h;cases hl
 | kds ver p t hl' d=>obtain⟨-,rfl,-⟩:=h;cases hl
 | gone=>exact⟨h.2.2 (by rintro rfl;cases hl),fun off'=>⟨rfl,rfl,fun _=>rfl⟩⟩
theorem PtrTo.mapLk{o o':O}{it:Bool}{b off:Nat}{v:Value}(hm:mapLk it o)(hx:PtrTo o b off v)(h:Abs.mapLk it o'):PtrTo o' b off v:=by
 have h1:off=1000000/\v=bif it then .pointer (some ⟨b,0,none⟩) else .map (some b):=by
  cases o with
  | oth fz q d=>obtain rfl:q.it=it:=hm;exact hx
  | kds ver p t hl d=>obtain⟨rfl,-⟩:=hm;exact⟨hx.2.1,hx.2.2⟩
  | _=>exact hm.elim
 cases o' with
 | oth fz q d=>obtain rfl:q.it=it:=h;exact h1
 | kds ver p t hl d=>obtain⟨rfl,hp⟩:=h;exact⟨hp,h1.1,h1.2⟩
 | _=>exact h.elim
theorem PtrTo.mstep{o o':O}{it:Bool}{b off:Nat}{v:Value}{l l':Loc}(hm:Abs.mapLk it o)(hs:(Abs.mapLk it o'\/o'=.gone)/\l'.a=l.a)(ha:l.a=some b)(hx:PtrTo o b off v):∃ b,l'.a=some b/\PtrTo o' b off v:=by
 refine⟨b,by rw [hs.2];exact ha,?_⟩
 rcases hs.1 with h | h
 ·exact hx.mapLk hm h
 ·rw [h];exact hx.gone
theorem KStep.refl(ver:Nat)(p:Kp)(t:Kt)(hl:Option (p.ix.den×V))(d:(p.sh t).den)(l:Loc):KStep ver p (kLen p t d) t.n l (.kds ver p t hl d) l:=by
 unfold KStep
 split
 ·exact⟨.inl ⟨rfl,‹_›⟩,rfl⟩
 ·exact .inl ⟨ver,p,t,hl,d,rfl,‹_›,Nat.le_refl _,fun _=>⟨rfl,rfl,rfl,rfl⟩⟩
theorem OStep.refl(h:List O)(σ:Nat->Loc):OStep h σ h σ:=fun o=>by
 cases e:getO h o with
 | none=>trivial
 | cells vs=>exact .inl ⟨vs,rfl,rfl⟩
 | row fz ver ty s xs=>exact⟨fz,ver,ty,s,xs,rfl,Nat.le_refl _,fun _=>⟨rfl,rfl,rfl⟩⟩
 | oth fz q xs=>exact⟨.inl rfl,rfl⟩
 | kds ver p t hl d=>exact KStep.refl ..
 | nst ver q xs=>exact .inl ⟨ver,xs,rfl,Nat.le_refl _,rfl,fun _ _ _ h=>h⟩
 | gone=>exact⟨rfl,rfl⟩
def qvA(o o':O)(l l':Loc):Prop:=match o with
  | .none=>True
  | .cells _=>(∃ vs',o'=.cells vs'/\l'=l)\/(o'=.gone/\l'.a=l.a)
  | .row _ ver _ s xs=>∃ fz' ver' e' s' xs',o'=.row fz' ver' e' s' xs'/\ver<=ver'/\(ver=ver'->l'=l/\s'=s/\xs'.length=xs.length)
  | .oth _ q _=>(mapLk q.it o'\/o'=.gone)/\l'.a=l.a
  | .kds ver p t _ d=>KStep ver p (kLen p t d) t.n l o' l'
  | .nst ver q _=>(∃ ver' xs',o'=.nst ver' q xs'/\ver<=ver'/\l'.a=l.a/\(ver=ver'->∀ i c:Nat,l.ex[i]? = some c->l'.ex[i]? = some c))\/(o'=.gone/\l'.a=l.a)
  | .gone=>o'=.gone/\l'.a=l.a
theorem mapLk.step{it:Bool}{o o':O}{l l':Loc}(h:mapLk it o)(hb:qvA o o' l l'):(mapLk it o'\/o'=.gone)/\l'.a=l.a:=by
 cases o with
 | oth fz q d=>obtain rfl:q.it=it:=h;exact hb
 | kds ver p t hl d=>
  obtain⟨rfl,hp⟩:=h
  have hb:KStep ver p (kLen p t d) t.n l o' l':=hb
  unfold KStep at hb
  rw [hp] at hb
  exact hb
 | _=>exact h.elim
theorem quz{it:Bool}{o o':O}{l l' l'':Loc}(ha:(mapLk it o\/o=.gone)/\l'.a=l.a)(hb:qvA o o' l' l''):(mapLk it o'\/o'=.gone)/\l''.a=l.a:=by
 obtain⟨h | h,hl⟩:=ha
 ·obtain⟨h1,h2⟩:=h.step hb
  exact⟨h1,h2.trans hl⟩
 ·subst h
  exact⟨.inr hb.1,hb.2.trans hl⟩
theorem KStep.trans{ver n tn:Nat}{p:Kp}{o o':O}{l l' l'':Loc}(ha:KStep ver p n tn l o l')(hb:qvA o o' l' l''):KStep ver p n tn l o' l'':=by
 unfold KStep at ha ⊢
 split at ha
 ·exact quz ha hb
 ·rcases ha with⟨ver',p',t',hl',d',rfl,hp,hv,hc⟩ | rfl
  ·have hb:KStep ver' p' (kLen p' t' d') t'.n l' o' l'':=hb
   unfold KStep at hb
   rw [hp] at hb
   rcases hb with⟨ver2,p2,t2,hl2,d2,e2,hp2,hv2,hc2⟩ | e2
   ·refine .inl ⟨ver2,p2,t2,hl2,d2,e2,hp2,zn hv hv2,fun h=>?_⟩
    obtain⟨x1,x2,x3,x4⟩:=hc (by omega)
    obtain⟨y1,y2,y3,y4⟩:=hc2 (by omega)
    exact⟨y1.trans x1,y2.trans x2,y3.trans x3,y4.trans x4⟩
   ·exact .inr e2
  ·exact .inr hb.1
theorem OStep.trans{h h' h'':List O}{σ σ' σ'':Nat->Loc}(a:OStep h σ h' σ')(b:OStep h' σ' h'' σ''):OStep h σ h'' σ'':=fun o=>by
 have ha:=a o
 have hb:=b o
 cases e:getO h o with
 | none=>trivial
 | cells vs=>
  simp only [e] at ha
  rcases ha with⟨vs',e',s'⟩ | ⟨e',s'⟩
  ·simp only [e'] at hb
   rcases hb with⟨vs'',e'',s''⟩ | ⟨e'',s''⟩
   ·exact .inl ⟨vs'',e'',s''.trans s'⟩
   ·exact .inr ⟨e'',by rw [s'',s']⟩
  ·simp only [e'] at hb
   exact .inr ⟨hb.1,hb.2.trans s'⟩
 | row fz ver ty s xs=>
  simp only [e] at ha
  obtain⟨fz',ver',ty',t',xs',e',l',c'⟩:=ha
  simp only [e'] at hb
  obtain⟨fz'',ver'',ty'',t'',xs'',e'',l'',c''⟩:=hb
  refine⟨fz'',ver'',ty'',t'',xs'',e'',by omega,fun hv=>?_⟩
  obtain⟨x1,x2,x3⟩:=c' (by omega)
  obtain⟨y1,y2,y3⟩:=c'' (by omega)
  exact⟨y1.trans x1,y2.trans x2,y3.trans x3⟩
 | oth fz q xs=>
  simp only [e] at ha
  exact quz ha hb
 | kds ver p t hl d=>
  simp only [e] at ha
  exact ha.trans hb
 | nst ver q xs=>
  simp only [e] at ha
  rcases ha with⟨ver',xs',e',l',s',c'⟩ | ⟨e',s'⟩
  ·simp only [e'] at hb
   rcases hb with⟨ver'',xs'',e'',l'',s'',c''⟩ | ⟨e'',s''⟩
   ·exact .inl ⟨ver'',xs'',e'',by omega,s''.trans s',fun hv i c hc=>c'' (by omega) i c (c' (by omega) i c hc)⟩
   ·exact .inr ⟨e'',s''.trans s'⟩
  ·simp only [e'] at hb
   exact .inr ⟨hb.1,hb.2.trans s'⟩
 | gone=>
  simp only [e] at ha
  simp only [ha.1] at hb
  exact⟨hb.1,hb.2.trans ha.2⟩
theorem RefTo.one{o:O}{l:Loc}{ver i off:Nat}{v:Value}(hv:RefTo o l ver i off v):v.oneCell'=true:=by
 cases o with
 | row fz ver' e s xs=>exact hv.2.1
 | nst ver' q d=>exact hv.2.1
 | kds ver' p t hl d=>exact hv.2.2.1
 | gone=>exact hv
 | _=>exact hv.elim
theorem RefTo.kstep{ver1 ver i off:Nat}{p:Kp}{t:Kt}{hl:Option (p.ix.den×V)}{d:(p.sh t).den}{l l':Loc}{o':O}{v:Value}(hs:KStep ver1 p (kLen p t d) t.n l o' l')(hv:RefTo (.kds ver1 p t hl d) l ver i off v):RefTo o' l' ver i off v:=by
 obtain⟨hp,hv1,h1c,hx⟩:=hv
 unfold KStep at hs
 rw [hp] at hs
 rcases hs with⟨ver',p',t',hl',d',rfl,hp',hv',hc⟩ | rfl
 ·refine⟨hp',by omega,h1c,fun hv=>?_⟩
  obtain⟨x1,x2,x3,x4⟩:=hc (by omega)
  rcases hx (by omega) with⟨q1,q2⟩ | ⟨q1,b,q2,q3,q4⟩
  ·exact .inl ⟨q1,by rw [x3,Loc.cp,x2,Loc.adr,Loc.off,x1,x2];exact q2⟩
  ·exact .inr ⟨q1,b,by rw [x1];exact q2,by rw [x3];exact q3,by rw [Loc.off,x2,x4];exact q4⟩
 ·exact h1c
theorem RefTo.step{h h':List O}{σ σ':Nat->Loc}(s:OStep h σ h' σ'){o ver i off:Nat}{v:Value}(hv:RefTo (getO h o) (σ o) ver i off v):RefTo (getO h' o) (σ' o) ver i off v:=by
 have hs:=s o
 cases e:getO h o with
 | none=>rw [e] at hv;exact hv.elim
 | cells vs=>rw [e] at hv;exact hv.elim
 | oth fz q xs=>rw [e] at hv;exact hv.elim
 | row fz ver1 ty t xs=>
  rw [e] at hv
  simp only [e] at hs
  obtain⟨hl,h1c,hx⟩:=hv
  obtain⟨fz',ver',ty',t',xs',e',l',c'⟩:=hs
  rw [e']
  refine⟨by omega,h1c,fun hv=>?_⟩
  obtain⟨x1,x2,x3⟩:=c' (by omega)
  obtain⟨b,h1,h2,h3⟩:=hx (by omega)
  exact⟨b,by rw [x1];exact h1,by omega,by rw [x2];exact h3⟩
 | nst ver1 q xs=>
  rw [e] at hv
  simp only [e] at hs
  obtain⟨hl,h1c,hx⟩:=hv
  rcases hs with⟨ver',xs',e',l',_,c'⟩ | ⟨e',_⟩
  ·rw [e']
   refine⟨by omega,h1c,fun hv=>?_⟩
   obtain⟨h1,c,h2,h3⟩:=hx (by omega)
   exact⟨h1,c,c' (by omega) i c h2,h3⟩
  ·rw [e'];exact h1c
 | kds ver1 p t hl d=>
  rw [e] at hv
  simp only [e] at hs
  exact RefTo.kstep hs hv
 | gone=>
  rw [e] at hv
  simp only [e] at hs
  rw [hs.1];exact hv
theorem TlTo.one{o:O}{l:Loc}{ver a:Nat}{v:Value}(hv:TlTo o l ver a v):v.oneCell'=true:=by
 cases o with
 | row fz ver' e s xs=>exact hv.2.1
 | cells vs=>obtain⟨b,_,rfl⟩:=hv;rfl
 | gone=>exact hv
 | _=>exact hv.elim
theorem TlTo.step{h h':List O}{σ σ':Nat->Loc}(s:OStep h σ h' σ'){o ver a:Nat}{v:Value}(hv:TlTo (getO h o) (σ o) ver a v):TlTo (getO h' o) (σ' o) ver a v:=by
 have hs:=s o
 cases e:getO h o with
 | none=>rw [e] at hv;exact hv.elim
 | oth fz q xs=>rw [e] at hv;exact hv.elim
 | nst ver1 q xs=>rw [e] at hv;exact hv.elim
 | kds ver1 p t hl d=>rw [e] at hv;exact hv.elim
 | cells vs=>
  rw [e] at hv
  simp only [e] at hs
  have h1:=hv.one
  obtain⟨b,ha,hx⟩:=hv
  rcases hs with⟨vs',e',s'⟩ | ⟨e',_⟩
  ·rw [e',s'];exact⟨b,ha,hx⟩
  ·rw [e'];exact h1
 | row fz ver1 ty t xs=>
  rw [e] at hv
  simp only [e] at hs
  obtain⟨hl,h1c,hx⟩:=hv
  obtain⟨fz',ver',ty',t',xs',e',l',c'⟩:=hs
  rw [e']
  refine⟨by omega,h1c,fun hv=>?_⟩
  obtain⟨x1,x2,x3⟩:=c' (by omega)
  rw [x1,x3,x2];exact hx (by omega)
 | gone=>
  rw [e] at hv
  simp only [e] at hs
  rw [hs.1];exact hv
mutual
theorem RV.keeps{w w':World}{M M':Nat->Prop}{h h':List O}{σ σ':Nat->Loc}(k:Keeps w M w' M')(s:OStep h σ h' σ'):{v:V} -> {x:Value}->RV w M h σ v x->RV w' M' h' σ' v x
 | .bad,_,_=>by simp only [RV]
 | .undef,_,hv=>by simp only [RV] at hv ⊢;exact hv
 | .int _ _,_,hv=>by simp only [RV] at hv ⊢;exact hv
 | .bool _,_,hv=>by simp only [RV] at hv ⊢;exact hv
 | .nil,_,hv=>by simp only [RV] at hv ⊢;exact hv
 | .nl _,_,hv=>by simp only [RV] at hv ⊢;exact hv
 | .ifc _ _,_,hv=>by
  simp only [RV] at hv ⊢
  obtain⟨u,rfl,hr⟩:=hv
  exact⟨u,rfl,RV.keeps k s hr⟩
 | .nlt _ _,_,hv=>by simp only [RV] at hv ⊢;exact hv
 | .sl _ _,_,hv=>by simp only [RV] at hv ⊢;exact RC.keeps k hv
 | .slc o ver,_,hv=>by
  simp only [RV] at hv ⊢
  obtain⟨fz,ver1,ty,t,xs,e,hl,h1c,hx⟩:=hv
  have hs:=s o
  simp only [e] at hs
  obtain⟨fz',ver',ty',t',xs',e',l',c'⟩:=hs
  refine⟨fz',ver',ty',t',xs',e',by omega,h1c,fun hv=>?_⟩
  obtain⟨x1,x2,x3⟩:=c' (by omega)
  rw [x1,x3];exact hx (by omega)
 | .ptr o off,_,hv=>by
  simp only [RV] at hv ⊢
  obtain⟨b,ha,hx⟩:=hv
  have hs:=s o
  cases e:getO h o with
  | none=>rw [e] at hx;exact hx.elim
  | cells vs=>
   rw [e] at hx
   simp only [e] at hs
   rcases hs with⟨vs',e',s'⟩ | ⟨e',s'⟩
   ·exact⟨b,by rw [s'];exact ha,by rw [e'];exact hx⟩
   ·exact⟨b,by rw [s'];exact ha,by rw [e'];exact PtrTo.gone hx⟩
  | row fz ver ty t xs=>rw [e] at hx;exact hx.elim
  | oth fz q xs=>
   rw [e] at hx
   simp only [e] at hs
   exact PtrTo.mstep (it:=q.it) (show Abs.mapLk q.it (.oth fz q xs) from rfl) hs ha hx
  | kds ver p t hl d=>
   rw [e] at hx
   simp only [e] at hs
   have hp:=hx.1
   unfold KStep at hs
   rw [hp] at hs
   exact PtrTo.mstep (it:=false) (show Abs.mapLk false (.kds ver p t hl d) from⟨rfl,hp⟩) hs ha hx
  | nst ver q xs=>
   rw [e] at hx
   simp only [e] at hs
   rcases hs with⟨ver',xs',e',_,s',_⟩ | ⟨e',s'⟩
   ·exact⟨b,by rw [s'];exact ha,by rw [e'];exact hx⟩
   ·exact⟨b,by rw [s'];exact ha,by rw [e'];exact PtrTo.gone hx⟩
  | gone=>
   rw [e] at hx
   simp only [e] at hs
   exact⟨b,by rw [hs.2];exact ha,by rw [hs.1];exact hx⟩
 | .rptr o ver i off,_,hv=>by
  simp only [RV] at hv ⊢
  exact RefTo.step s hv
 | .tl o ver a,_,hv=>by
  simp only [RV] at hv ⊢
  exact TlTo.step s hv
 | .fptr _ _,_,hv=>by
  simp only [RV] at hv ⊢
  obtain⟨b,q,cs,rfl,hb,hm,hc,hr⟩:=hv
  exact⟨b,q,cs,rfl,zM hb k.size,k.out b hb hm,k.cells hb hm hc,RC.keeps k hr⟩
 | .yld _,_,hv=>by simp only [RV] at hv ⊢;exact hv
 | .pptr _ _,_,hv=>by
  simp only [RV] at hv ⊢
  obtain⟨b,q,b',q',cs,rfl,hb,hm,hc,hb2,hm2,hc2,hr⟩:=hv
  exact⟨b,q,b',q',cs,rfl,zM hb k.size,k.out b hb hm,k.cells hb hm hc,zM hb2 k.size,k.out b' hb2 hm2,k.cells hb2 hm2 hc2,RC.keeps k hr⟩
 | .clo _ _,_,hv=>by
  simp only [RV] at hv ⊢
  obtain⟨vs,rfl,hr⟩:=hv
  exact⟨vs,rfl,RVs.keeps k s hr⟩
 | .agg _,_,hv=>by
  simp only [RV] at hv ⊢
  obtain⟨vs,rfl,h1,hr⟩:=hv
  exact⟨vs,rfl,h1,RVs.keeps k s hr⟩
 | .tup _,_,hv=>by
  simp only [RV] at hv ⊢
  obtain⟨vs,rfl,hr⟩:=hv
  exact⟨vs,rfl,RVs.keeps k s hr⟩
theorem RVs.keeps{w w':World}{M M':Nat->Prop}{h h':List O}{σ σ':Nat->Loc}(k:Keeps w M w' M')(s:OStep h σ h' σ'):{vs:List V} -> {xs:List Value}->RVs w M h σ vs xs->RVs w' M' h' σ' vs xs
 | [],_,hv=>by simp only [RVs] at hv ⊢;exact hv
 | _ :: _,_,hv=>by
  simp only [RVs] at hv ⊢
  obtain⟨x,xs,rfl,h1,h2⟩:=hv
  exact⟨x,xs,rfl,RV.keeps k s h1,RVs.keeps k s h2⟩
end
theorem RVs.length{w:World}{M:Nat->Prop}{h:List O}{σ:Nat->Loc}:{vs:List V} -> {xs:List Value}->RVs w M h σ vs xs->vs.length=xs.length
 | [],_,hv=>by simp only [RVs] at hv;simp [hv]
 | _ :: _,_,hv=>by
  simp only [RVs] at hv
  obtain⟨x,xs,rfl,_,h2⟩:=hv
  simp [RVs.length h2]
theorem RVs.get{w:World}{M:Nat->Prop}{h:List O}{σ:Nat->Loc}:{vs:List V} -> {xs:List Value}->RVs w M h σ vs xs -> {i:Nat} -> {v:V}->vs[i]? = some v->∃ x,xs[i]? = some x/\RV w M h σ v x
 | [],_,_,i,v,hi=>by simp at hi
 | u :: r,_,hv,i,v,hi=>by
  simp only [RVs] at hv
  obtain⟨x,xs,rfl,h1,h2⟩:=hv
  cases i with
  | zero=>simp at hi;subst hi;exact⟨x,rfl,h1⟩
  | succ i=>simp at hi;obtain⟨y,hy,hr⟩:=RVs.get h2 hi;exact⟨y,by simpa using hy,hr⟩
theorem RVs.append{w:World}{M:Nat->Prop}{h:List O}{σ:Nat->Loc}{us vs:List V}{xs ys:List Value}(h1:RVs w M h σ us xs)(h2:RVs w M h σ vs ys):RVs w M h σ (us++vs) (xs++ys):=by
 induction us generalizing xs with
 | nil=>simp only [RVs] at h1;subst h1;simpa using h2
 | cons u us ih=>
  simp only [RVs] at h1
  obtain⟨x,xs,rfl,a,b⟩:=h1
  simp only [List.cons_append,RVs]
  exact⟨x,xs++ys,rfl,a,ih b⟩
theorem RVs.take{w:World}{M:Nat->Prop}{h:List O}{σ:Nat->Loc}{vs:List V}{xs:List Value}(h1:RVs w M h σ vs xs)(n:Nat):RVs w M h σ (vs.take n) (xs.take n):=by
 induction vs generalizing xs n with
 | nil=>simp only [RVs] at h1;subst h1;simp [RVs]
 | cons v vs ih=>
  simp only [RVs] at h1
  obtain⟨x,xs,rfl,a,b⟩:=h1
  cases n with
  | zero=>simp [RVs]
  | succ n=>simp only [List.take_succ_cons,RVs];exact⟨x,_,rfl,a,ih b n⟩
theorem RVs.drop{w:World}{M:Nat->Prop}{h:List O}{σ:Nat->Loc}{vs:List V}{xs:List Value}(h1:RVs w M h σ vs xs)(n:Nat):RVs w M h σ (vs.drop n) (xs.drop n):=by
 induction vs generalizing xs n with
 | nil=>simp only [RVs] at h1;subst h1;simp [RVs]
 | cons v vs ih=>
  cases n with
  | zero=>simpa using h1
  | succ n=>
   simp only [RVs] at h1
   obtain⟨x,xs,rfl,a,b⟩:=h1
   simpa using ih b n
theorem RC.one{w:World}{M:Nat->Prop}:{s:Sh} -> {x:s.den} -> {cs:List Value}->RC w M s x cs->∀ c∈cs,c.oneCell'=true
 | .int _,_,_,h=>by simp only [RC] at h;subst h;intro c hc;simp at hc;subst hc;rfl
 | .bool,_,_,h=>by simp only [RC] at h;subst h;intro c hc;simp at hc;subst hc;rfl
 | .unit,_,_,h=>by simp only [RC] at h;subst h;intro c hc;simp at hc
 | .pair _ _,_,_,h=>by
  simp only [RC] at h
  obtain⟨c,d,rfl,h1,h2⟩:=h
  intro v hv
  rcases zU.1 hv with hv | hv
  ·exact RC.one h1 v hv
  ·exact RC.one h2 v hv
 | .sl _,_,_,h=>by
  simp only [RC] at h
  obtain⟨a,cap,rfl,_⟩:=h
  intro c hc;simp at hc;subst hc;rfl
section
variable {w w' : World} {M M' : Nat -> Prop} {s : Sh}
theorem RL.keeps(k:Keeps w M w' M'){xs:List s.den}{cs:List Value}(h:RL w M s xs cs):RL w' M' s xs cs:=by
 induction xs generalizing cs with
 | nil=>simpa only [RL] using h
 | cons x xs ih=>
  simp only [RL] at h ⊢
  obtain⟨c,d,rfl,h1,h2⟩:=h
  exact⟨c,d,rfl,RC.keeps k h1,ih h2⟩
theorem RL.length{xs:List s.den}{cs:List Value}(h:RL w M s xs cs):cs.length=xs.length*s.n:=by
 induction xs generalizing cs with
 | nil=>simp only [RL] at h;simp [h]
 | cons x xs ih=>
  simp only [RL] at h
  obtain⟨c,d,rfl,h1,h2⟩:=h
  simp only [zq,List.length_cons,RC.length h1,ih h2,zAM];omega
theorem RL.one{xs:List s.den}{cs:List Value}(h:RL w M s xs cs):∀ c∈cs,c.oneCell'=true:=by
 induction xs generalizing cs with
 | nil=>simp only [RL] at h;subst h;intro c hc;simp at hc
 | cons x xs ih=>
  simp only [RL] at h
  obtain⟨c,d,rfl,h1,h2⟩:=h
  intro v hv
  rcases zU.1 hv with hv | hv
  ·exact RC.one h1 v hv
  ·exact ih h2 v hv
theorem RL.append{xs ys:List s.den}{cs ds:List Value}(h:RL w M s xs cs)(h':RL w M s ys ds):RL w M s (xs++ys) (cs++ds):=by
 induction xs generalizing cs with
 | nil=>simp only [RL] at h;subst h;simpa using h'
 | cons x xs ih=>
  simp only [RL] at h
  obtain⟨c,d,rfl,h1,h2⟩:=h
  simp only [List.cons_append,RL]
  exact⟨c,d++ds,by simp,h1,ih h2⟩
theorem RL.get{xs:List s.den}{cs:List Value}(h:RL w M s xs cs){i:Nat}{x:s.den}(hi:xs[i]? = some x) :
  ∃ c,RC w M s x c/\∀ j v,c[j]? = some v->cs[i*s.n+j]? = some v:=by
 induction xs generalizing cs i with
 | nil=>simp at hi
 | cons y xs ih=>
  simp only [RL] at h
  obtain⟨c,d,rfl,h1,h2⟩:=h
  cases i with
  | zero=>
   simp at hi;subst hi
   refine⟨c,h1,fun j v hj=>?_⟩
   rw [Nat.zero_mul,Nat.zero_add,zl (zS.1 hj).1];exact hj
  | succ i=>
   simp at hi
   obtain⟨c',h3,h4⟩:=ih h2 hi
   refine⟨c',h3,fun j v hj=>?_⟩
   have hc:=RC.length h1
   rw [zu (by rw [hc,zAM];omega),hc,<- h4 j v hj]
   congr 1;rw [zAM];omega
theorem RL.set{xs:List s.den}{cs:List Value}(h:RL w M s xs cs){i:Nat}(hi:i<xs.length){y:s.den}{c:List Value}(hc:RC w M s y c) :
  RL w M s (xs.set i y) (cs.take (i*s.n)++c++cs.drop (i*s.n+s.n)):=by
 induction xs generalizing cs i with
 | nil=>simp at hi
 | cons x xs ih=>
  simp only [RL] at h
  obtain⟨c0,d,rfl,h1,h2⟩:=h
  have hl:=RC.length h1
  cases i with
  | zero=>
   simp only [List.set_cons_zero,RL,Nat.zero_mul,List.take_zero,List.nil_append,Nat.zero_add]
   exact⟨c,d,by rw [<- hl,zCW],hc,h2⟩
  | succ i=>
   simp only [List.set_cons_succ,RL]
   refine⟨c0,_,?_,h1,ih h2 (by simpa using hi)⟩
   rw [zCK,zAl (by rw [hl,zAM];omega),zBh,zAm (by rw [hl,zAM];omega)]
   have e1:(i+1)*s.n - c0.length=i*s.n:=by rw [hl,zAM];omega
   have e2:(i+1)*s.n+s.n - c0.length=i*s.n+s.n:=by rw [hl,zAM];omega
   rw [e1,e2];simp
theorem RL.ofRow{b q:Nat}{xs:List s.den}(h:RowAt (RC w M s) s.n w b q xs):∃ cs,RL w M s xs cs/\qay w b q cs:=by
 induction xs generalizing q with
 | nil=>exact⟨[],rfl,fun j v hj=>by simp at hj⟩
 | cons x xs ih=>
  obtain⟨c,hc,hr⟩:=h 0 x rfl
  obtain⟨d,hd,he⟩:=ih (q:=q+s.n) (fun i y hy=>by
   obtain⟨c,hc,hr⟩:=h (i+1) y (by simpa using hy)
   exact⟨c,by rw [zAM] at hc;rwa [zAF,zBO s.n],hr⟩)
  refine⟨c++d,⟨c,d,rfl,hr,hd⟩,fun j v hj=>?_⟩
  have hl:=RC.length hr
  rcases zAO j c.length with h' | h'
  ·rw [zl h'] at hj
   have:=hc j v hj
   simpa using this
  ·rw [zu h'] at hj
   have:=he _ v hj
   rw [show q+s.n+(j - c.length)=q+j by omega] at this
   exact this
theorem RL.row{b q:Nat}{xs:List s.den}{cs:List Value}(h:RL w M s xs cs)(hc:qay w b q cs):RowAt (RC w M s) s.n w b q xs:=fun i x hx=>by
 obtain⟨c,h1,h2⟩:=h.get hx
 exact⟨c,fun j v hj=>by have:=hc _ v (h2 j v hj);rwa [<- zAF] at this,h1⟩
end
theorem RC.cellsOf{w:World}{M:Nat->Prop}{s:Sh}{xs:List s.den}{v:Value}(h:RC w M (.sl s) xs [v]) :
  ∃ a cap cs,v=.slice a xs.length cap/\RL w M s xs cs/\(xs = []\/∃ b q,a=some ⟨b,q,none⟩/\b<w.heap.size/\¬ M b/\qay w b q cs):=by
 simp only [RC] at h
 obtain⟨a,cap,hv,_,_,h⟩:=h
 simp at hv
 by_cases hx:xs = []
 ·subst hx;exact⟨a,cap,[],hv,rfl,.inl rfl⟩
 ·obtain⟨b,q,ha,hb,hm,hr⟩:=h hx
  obtain⟨cs,h1,h2⟩:=RL.ofRow hr
  exact⟨a,cap,cs,hv,h1,.inr ⟨b,q,ha,hb,hm,h2⟩⟩
theorem RC.sub{w:World}{M M':Nat->Prop}(h:∀ b,M' b->M b){s:Sh}{x:s.den}{cs:List Value}(r:RC w M s x cs):RC w M' s x cs:=
 RC.keeps ⟨Nat.le_refl _,fun _ _ _=>rfl,fun b _ hm h'=>hm (h b h')⟩ r
end Go.Abs
namespace Go.Abs
open Go.RowKit
theorem qdi{w:World}{e:TypeId}{k n:Nat}{l:Loc}{m:Nat}{cs:List Value}(h:w.ownsRow 0 e k (rowV l m) n cs){b:Nat}(ha:l.a=some b):b<w.heap.size:=
 (h.lt b (by simp [rowV,Loc.addr,ha,Value.ownBlock])).2
theorem RQ.lt{w:World}{M:Nat->Prop}{l:Loc}{q:Oth}{d:q.sh.den}(r:RQ w M l q d){b:Nat}(ha:l.a=some b):b<w.heap.size:=by
 unfold RQ at r
 split at r
 ·obtain⟨b',es,clock,ha',hb,_⟩:=r
  rw [ha] at ha';cases ha';exact (zI.1 hb).1
 ·obtain⟨b',bm,since,last,seen,es,clock,ha',hb,_⟩:=r
  rw [ha] at ha';cases ha';exact (zI.1 hb).1
theorem RU.lt{w:World}{M:Nat->Prop}{l:Loc}{q:Oth}{d:q.sh.den}(r:RU w M l q d){b:Nat}(ha:l.a=some b):b<w.heap.size:=by
 obtain⟨d',_,r⟩:=r
 exact r.lt ha
theorem MEs.keeps{w w':World}{M M':Nat->Prop}(k:Keeps w M w' M'){kS vS:Sh}:{xs:List (Int×(kS.den×vS.den))} -> {es:List MapEntry}->MEs w M kS vS xs es->MEs w' M' kS vS xs es
 | [],_,h=>h
 | _ :: _,_,h=>by
  obtain⟨e,r,rfl,h1,h2⟩:=h
  exact⟨e,r,rfl,⟨h1.born,RV.keeps k (OStep.refl [] σ0) h1.key,RV.keeps k (OStep.refl [] σ0) h1.val⟩,MEs.keeps k h2⟩
theorem RQ.keeps{w w':World}{M M':Nat->Prop}(k:Keeps w M w' M'){l:Loc}{q:Oth}{d:q.sh.den}(hl:∀ b,l.a=some b->b<w.heap.size->w'.heap[b]? = w.heap[b]?)(r:RQ w M l q d):RQ w' M' l q d:=by
 unfold RQ at r ⊢
 split at r
 ·obtain⟨b,es,clock,ha,hb,hc,h1,h2⟩:=r
  exact⟨b,es,clock,ha,by rw [hl b ha (zI.1 hb).1];exact hb,hc,h1.keeps k,h2⟩
 ·obtain⟨b,bm,since,last,seen,es,clock,ha,hb,hm,hM,hbm,h1,h2,h3,h4,h5⟩:=r
  refine⟨b,bm,since,last,seen,es,clock,ha,by rw [hl b ha (zI.1 hb).1];exact hb,zM hm k.size,k.out bm hm hM,by rw [k.block bm hm hM];exact hbm,h1,h2,h3,h4.keeps k,fun hd=>?_⟩
  obtain⟨e,s0,x,r,q1,q2,q3,q4,q5⟩:=h5 hd
  exact⟨e,s0,x,r,q1,q2,q3,q4,q5.born,RV.keeps k (OStep.refl [] σ0) q5.key,RV.keeps k (OStep.refl [] σ0) q5.val⟩
theorem RU.keeps{w w':World}{M M':Nat->Prop}(k:Keeps w M w' M'){l:Loc}{q:Oth}{d:q.sh.den}(hl:∀ b,l.a=some b->b<w.heap.size->w'.heap[b]? = w.heap[b]?)(r:RU w M l q d):RU w' M' l q d:=by
 obtain⟨d',h,r⟩:=r
 exact⟨d',h,r.keeps k hl⟩
theorem KidAt.lt{w:World}{M:Nat->Prop}{kd:Kid}{x:kd.sh.den}{c:Nat}{v:Value}(r:KidAt w M kd x c v):c<w.heap.size:=by
 cases kd with
 | map q=>exact r.2.2.lt rfl
 | row e s=>
  obtain⟨cap,cs,rfl,_,h,_⟩:=r
  exact qdi h rfl
theorem NEs.lt{w:World}{M:Nat->Prop}{k:Sh}{kd:Kid}:{xs:List (Int×(k.den×kd.sh.den))} -> {es:List MapEntry} -> {bs:List Nat}->NEs w M k kd xs es bs->∀ {b:Nat},b∈bs->b<w.heap.size
 | [],_,_,h,b,hb=>by obtain⟨-,rfl⟩:=h;cases hb
 | _ :: _,_,_,h,b,hb=>by
  obtain⟨e,r,c,cs,rfl,rfl,_,_,h1,h2⟩:=h
  rcases zi.1 hb with rfl | hb
  ·exact h1.lt
  ·exact NEs.lt h2 hb
theorem RN.lt{w:World}{M:Nat->Prop}{l:Loc}{q:Nst}{d:q.sh.den}(r:RN w M l q d){b:Nat}(ha:l.a=some b\/b∈l.ex):b<w.heap.size:=by
 unfold RN at r
 split at r
 ·obtain⟨b',es,clock,ha',hb,_,h1,_⟩:=r
  rcases ha with ha | ha
  ·rw [ha] at ha';cases ha';exact (zI.1 hb).1
  ·exact h1.lt ha
 ·obtain⟨b',bm,since,last,seen,es,clock,ha',hb,_,_,_,_,_,_,_,cs,h1,h2⟩:=r
  rcases ha with ha | ha
  ·rw [ha] at ha';cases ha';exact (zI.1 hb).1
  ·rcases h2 with⟨_,e⟩ | ⟨_,_,_,_,c,_,_,_,_,_,h3,e⟩
   ·rw [e] at ha;exact h1.lt ha
   ·rw [e] at ha
    rcases zi.1 ha with rfl | ha
    ·exact h3.lt (zAH ..)
    ·exact h1.lt ha
theorem qfB{w w':World}{e:TypeId}{k n:Nat}{v:Value}{cs:List Value}(h:w.ownsRow 0 e k v n cs)(hb:∀ b,v.ownBlock=some b->w'.heap[b]? = w.heap[b]?):w'.ownsRow 0 e k v n cs:=by
 refine⟨h.1,?_⟩
 rcases h.2 with hn | ⟨g,cap,cur,rfl,h1,hg,rest⟩
 ·exact .inl hn
 ·exact .inr ⟨g,cap,cur,rfl,h1,by rw [hb g rfl];exact hg,rest⟩
theorem KidAt.keeps{w w':World}{M M':Nat->Prop}(k:Keeps w M w' M'){kd:Kid}{x:kd.sh.den}{c:Nat}{v:Value}(hl:c<w.heap.size->w'.heap[c]? = w.heap[c]?)(r:KidAt w M kd x c v):KidAt w' M' kd x c v:=by
 cases kd with
 | map q=>
  obtain⟨h1,h2,h3⟩:=r
  exact⟨h1,h2,h3.keeps k (fun b hb hlt=>by cases hb;exact hl hlt)⟩
 | row e s=>
  obtain⟨cap,cs,rfl,h1,h2,h3⟩:=r
  exact⟨cap,cs,rfl,h1,qfB h2 (fun b hb=>by cases hb;exact hl (qdi h2 rfl)),h3.keeps k⟩
theorem NEs.keeps{w w':World}{M M':Nat->Prop}(k:Keeps w M w' M'){kS:Sh}{kd:Kid}:{xs:List (Int×(kS.den×kd.sh.den))} -> {es:List MapEntry} -> {bs:List Nat}->(∀ b,b∈bs->b<w.heap.size->w'.heap[b]? = w.heap[b]?)->NEs w M kS kd xs es bs->NEs w' M' kS kd xs es bs
 | [],_,_,_,h=>h
 | _ :: _,_,_,hl,h=>by
  obtain⟨e,r,c,cs,rfl,rfl,h1,h2,h3,h4⟩:=h
  exact⟨e,r,c,cs,rfl,rfl,h1,RV.keeps k (OStep.refl [] σ0) h2,h3.keeps k (hl c (zAH ..)),NEs.keeps k (fun b hb=>hl b (zb _ hb)) h4⟩
theorem RN.keeps{w w':World}{M M':Nat->Prop}(k:Keeps w M w' M'){l:Loc}{q:Nst}{d:q.sh.den}(hl:∀ b,l.a=some b\/b∈l.ex->b<w.heap.size->w'.heap[b]? = w.heap[b]?)(r:RN w M l q d):RN w' M' l q d:=by
 unfold RN at r ⊢
 split at r
 ·obtain⟨b,es,clock,ha,hb,hc,h1,h2⟩:=r
  exact⟨b,es,clock,ha,by rw [hl b (.inl ha) (zI.1 hb).1];exact hb,hc,h1.keeps k (fun b hb=>hl b (.inr hb)),h2⟩
 ·obtain⟨b,bm,since,last,seen,es,clock,ha,hb,hm,hM,hbm,h1,h2,h3,h5,cs,h4,h6⟩:=r
  have hcs:∀ b,b∈cs->b∈l.ex:=fun b hb=>by
   rcases h6 with⟨_,e⟩ | ⟨_,_,_,_,c,_,_,_,_,_,_,e⟩
   ·rw [e];exact hb
   ·rw [e];exact zb _ hb
  refine⟨b,bm,since,last,seen,es,clock,ha,by rw [hl b (.inl ha) (zI.1 hb).1];exact hb,zM hm k.size,k.out bm hm hM,by rw [k.block bm hm hM];exact hbm,h1,h2,h3,h5,cs,h4.keeps k (fun b hb=>hl b (.inr (hcs b hb))),h6.imp id ?_⟩
  rintro⟨e,s0,x,r,c,q1,q2,q3,q4,q5,q6,q7⟩
  exact⟨e,s0,x,r,c,q1,q2,q3,q4,q5,q6.keeps k (fun b hb=>hl b (.inr (by rw [q7];simp at hb;rw [hb];simp))),q7⟩
theorem qsz{l:Loc}{n b:Nat}:(rowV l n).ownBlock=some b->l.a=some b:=fun hb=>by
 cases hla:l.a with
 | none=>simp [rowV,Loc.addr,hla,Value.ownBlock] at hb
 | some b'=>simp [rowV,Loc.addr,hla,Value.ownBlock] at hb;rw [hb]
theorem KV.lt{w:World}{M:Nat->Prop}{t:Kt}{x:t.sh.den}{v:Value}{bs:List Nat}(r:KV w M t x v bs){b:Nat}(hb:b∈bs):b<w.heap.size:=by
 cases t with
 | row e s=>
  obtain⟨l,cs,rfl,_,h,_,rfl⟩:=r
  exact qdi h (by simpa using hb)
 | _=>exact r.elim
theorem OwnK.lt{w:World}{e:TypeId}{n:Nat}{l:Loc}{m:Nat}{cs:List Value}(h:OwnK w e n l m cs){b:Nat}(ha:l.a=some b):b<w.heap.size:=by
 obtain⟨_,⟨q,_⟩ | ⟨g,cur,q,hg,_⟩⟩:=h
 ·rw [ha] at q;cases q
 ·rw [ha] at q;cases q;exact (zI.1 hg).1
theorem KLs.lt{w:World}{α:Type}{n:Nat}{R:α->List Value->Option (Nat×V)->List Nat->Prop}(hR:∀ x c hl bs,R x c hl bs->∀ b,b∈bs->b<w.heap.size):{xs:List α} -> {cs:List Value} -> {hl:Option (Nat×V)} -> {bs:List Nat}->KLs n R xs cs hl bs->∀ {b:Nat},b∈bs->b<w.heap.size
 | [],_,_,_,h,b,hb=>by obtain⟨-,-,rfl⟩:=h;cases hb
 | _ :: _,_,_,_,h,b,hb=>by
  obtain⟨c,r,b1,b2,rfl,rfl,_,h1,h2⟩:=h
  rcases zU.1 hb with hb | hb
  ·exact hR _ _ _ _ h1 b hb
  ·exact KLs.lt hR h2 hb
theorem KW.lt{w:World}{M:Nat->Prop}{L:V->Value->Prop}:(t:Kt)->(x:t.sh.den)->(cs:List Value)->(hl:Option (Nat×V))->(bs:List Nat)->KW w M L t x cs hl bs->∀ b,b∈bs->b<w.heap.size
 | .dat s,x,cs,hl,bs,h,b,hb=>by
  simp only [KW] at h
  obtain⟨-,rfl,-⟩:=h;cases hb
 | .pair a c,x,cs,hl,bs,h,b,hb=>by
  simp only [KW] at h
  obtain⟨_,_,b1,b2,rfl,rfl,_,h1,h2⟩:=h
  rcases zU.1 hb with hb | hb
  ·exact KW.lt _ _ _ _ _ h1 b hb
  ·exact KW.lt _ _ _ _ _ h2 b hb
 | .row e s,x,cs,hl,bs,h,b,hb=>by
  simp only [KW] at h
  split at h
  ·obtain⟨-,rfl,-⟩:=h;cases hb
  ·obtain⟨c,rfl,h⟩:=h;exact h.lt hb
 | .krow e t,x,cs,hl,bs,h,b,hb=>by
  simp only [KW] at h
  split at h
  ·obtain⟨-,rfl,-⟩:=h;cases hb
  ·obtain⟨l,vs,ex,rfl,_,h1,h2,rfl⟩:=h
   rcases zU.1 hb with hb | hb
   ·exact h1.lt (by simpa using hb)
   ·exact KLs.lt (fun x c hl bs=>KW.lt t x c hl bs) h2 hb
 | .map q,x,cs,hl,bs,h,b,hb=>by
  simp only [KW] at h
  split at h
  ·obtain⟨-,rfl,-⟩:=h;cases hb
  ·rcases h with⟨_,_,_,rfl⟩ | ⟨c,rfl,_,_,h,rfl⟩
   ·cases hb
   ·exact h.lt (by simp at hb;rw [hb])
 | .box e t,x,cs,hl,bs,h,b,hb=>by
  simp only [KW] at h
  split at h
  ·obtain⟨-,rfl,-⟩:=h;cases hb
  ·rcases h with⟨_,_,rfl⟩ | ⟨c,vs,ex,_,_,rfl,hc,h,rfl⟩
   ·cases hb
   ·rcases zi.1 hb with rfl | hb
    ·exact (zI.1 hc).1
    ·exact KW.lt _ _ _ _ _ h b hb
theorem KVs.lt{w:World}{M:Nat->Prop}{t:Kt}:{xs:List t.sh.den} -> {vs:List Value} -> {hl:Option Nat} -> {bs:List Nat}->KVs w M t xs vs hl bs->∀ {b:Nat},b∈bs->b<w.heap.size
 | [],_,_,_,h,b,hb=>by obtain⟨-,rfl⟩:=h;cases hb
 | _ :: _,_,_,_,h,b,hb=>by
  obtain⟨v,r,b1,b2,rfl,rfl,h1,h2⟩:=h
  rcases zU.1 hb with hb | hb
  ·rcases h1 with⟨_,rfl⟩ | ⟨_,h1⟩
   ·cases hb
   ·exact h1.lt hb
  ·exact KVs.lt h2 hb
theorem RK.lt{w:World}{M:Nat->Prop}{L:V->Value->Prop}{l:Loc}{p:Kp}{t:Kt}{hl:Option (p.ix.den×V)}{d:(p.sh t).den}(r:RK w M L l p t hl d){b:Nat}(ha:l.a=some b\/b∈l.ex):b<w.heap.size:=by
 cases p with
 | map kt et k=>
  obtain⟨b',es,clock,ha',hb,_,_,h1,_⟩:=r
  rcases ha with ha | ha
  ·rw [ha] at ha';cases ha';exact (zI.1 hb).1
  ·exact h1.lt ha
 | row e=>
  obtain⟨_,vs,h0,h1,_⟩:=r
  rcases ha with ha | ha
  ·exact h0.lt ha
  ·exact KLs.lt (fun x c hl bs=>KW.lt t x c hl bs) h1 ha
theorem KV.keeps{w w':World}{M M':Nat->Prop}(k:Keeps w M w' M'){t:Kt}{x:t.sh.den}{v:Value}{bs:List Nat}(hl:∀ b,b∈bs->b<w.heap.size->w'.heap[b]? = w.heap[b]?)(r:KV w M t x v bs):KV w' M' t x v bs:=by
 cases t with
 | row e s=>
  obtain⟨l,cs,rfl,h1,h2,h3,rfl⟩:=r
  exact⟨l,cs,rfl,h1,qfB h2 (fun b hb=>hl b (by simpa using qsz hb) (qdi h2 (qsz hb))),h3.keeps k,rfl⟩
 | _=>exact r.elim
theorem OwnK.keeps{w w':World}{e:TypeId}{n:Nat}{l:Loc}{m:Nat}{cs:List Value}(hl:∀ b,l.a=some b->b<w.heap.size->w'.heap[b]? = w.heap[b]?)(h:OwnK w e n l m cs):OwnK w' e n l m cs:=by
 obtain⟨h0,q | ⟨g,cur,q,hg,h1⟩⟩:=h
 ·exact⟨h0,.inl q⟩
 ·exact⟨h0,.inr ⟨g,cur,q,by rw [hl g q (zI.1 hg).1];exact hg,h1⟩⟩
theorem KLs.imp{α:Type}{n:Nat}{P:Nat->Prop}{R R':α->List Value->Option (Nat×V)->List Nat->Prop}(hR:∀ x c hl bs,(∀ b,b∈bs->P b)->R x c hl bs->R' x c hl bs):{xs:List α} -> {cs:List Value} -> {hl:Option (Nat×V)} -> {bs:List Nat}->(∀ b,b∈bs->P b)->KLs n R xs cs hl bs->KLs n R' xs cs hl bs
 | [],_,_,_,_,h=>h
 | _ :: _,_,_,_,hp,h=>by
  obtain⟨c,r,b1,b2,rfl,rfl,hc,h1,h2⟩:=h
  exact⟨c,r,b1,b2,rfl,rfl,hc,hR _ _ _ _ (fun b hb=>hp b (zo _ hb)) h1,KLs.imp hR (fun b hb=>hp b (zf _ hb)) h2⟩
theorem qtb{n:Nat}{hl:Option (Nat×V)}{y:Nat×V}(h:hlo n hl=some y):∃ x,hl=some x/\x.2=y.2:=by
 unfold hlo at h
 split at h
 ·cases h
 ·rename_i x
  cases hb:Nat.blt x.1 n with
  | true=>rw [hb] at h;exact⟨x,rfl,by cases h;rfl⟩
  | false=>rw [hb] at h;cases h
theorem qte{n:Nat}{hl:Option (Nat×V)}{y:Nat×V}(h:hhi n hl=some y):∃ x,hl=some x/\x.2=y.2:=by
 unfold hhi at h
 split at h
 ·cases h
 ·rename_i x
  cases hb:Nat.blt x.1 n with
  | true=>rw [hb] at h;cases h
  | false=>rw [hb] at h;exact⟨x,rfl,by cases h;rfl⟩
theorem KLs.none_imp{α:Type}{n:Nat}{P:Nat->Prop}{R R':α->List Value->Option (Nat×V)->List Nat->Prop}(hR:∀ x c bs,(∀ b,b∈bs->P b)->R x c none bs->R' x c none bs):{xs:List α} -> {cs:List Value} -> {bs:List Nat}->(∀ b,b∈bs->P b)->KLs n R xs cs none bs->KLs n R' xs cs none bs
 | [],_,_,_,h=>h
 | _ :: _,_,_,hp,h=>by
  obtain⟨c,r,b1,b2,rfl,rfl,hc,h1,h2⟩:=h
  exact⟨c,r,b1,b2,rfl,rfl,hc,hR _ _ _ (fun b hb=>hp b (zo _ hb)) h1,KLs.none_imp hR (fun b hb=>hp b (zf _ hb)) h2⟩
theorem qDC{α:Type}(hl:Option (α×V)):hmap id hl=hl:=by cases hl <;> rfl
theorem qtc(f:V->V)(n:Nat)(hl:Option (Nat×V)):hlo n (hmap f hl)=hmap f (hlo n hl):=by
 cases hl with
 | none=>rfl
 | some x=>simp only [hmap,hlo];cases Nat.blt x.1 n <;> rfl
theorem qtf(f:V->V)(n:Nat)(hl:Option (Nat×V)):hhi n (hmap f hl)=hmap f (hhi n hl):=by
 cases hl with
 | none=>rfl
 | some x=>simp only [hmap,hhi];cases Nat.blt x.1 n <;> rfl
theorem KLs.keeps{w w':World}{α:Type}{n:Nat}{L L':V->Value->Prop}{f:V->V}{R R':α->List Value->Option (Nat×V)->List Nat->Prop}(hR:∀ x c hl bs,(∀ y c,hl=some y->L y.2 c->L' (f y.2) c)->(∀ b,b∈bs->b<w.heap.size->w'.heap[b]? = w.heap[b]?)->R x c hl bs->R' x c (hmap f hl) bs):{xs:List α} -> {cs:List Value} -> {hl:Option (Nat×V)} -> {bs:List Nat} ->
  (∀ y c,hl=some y->L y.2 c->L' (f y.2) c)->(∀ b,b∈bs->b<w.heap.size->w'.heap[b]? = w.heap[b]?)->KLs n R xs cs hl bs->KLs n R' xs cs (hmap f hl) bs
 | [],_,_,_,_,_,h=>by obtain⟨rfl,rfl,rfl⟩:=h;exact⟨rfl,rfl,rfl⟩
 | _ :: _,_,_,_,hL,hp,h=>by
  obtain⟨c,r,b1,b2,rfl,rfl,hc,h1,h2⟩:=h
  refine⟨c,r,b1,b2,rfl,rfl,hc,?_,?_⟩
  ·rw [qtc]
   refine hR _ _ _ _ (fun y c hy=>?_) (fun b hb=>hp b (zo _ hb)) h1
   obtain⟨z,h3,h4⟩:=qtb hy
   rw [<- h4];exact hL z c h3
  ·rw [qtf]
   refine KLs.keeps hR (fun y c hy=>?_) (fun b hb=>hp b (zf _ hb)) h2
   obtain⟨z,h3,h4⟩:=qte hy
   rw [<- h4];exact hL z c h3
theorem outK.imp{L L':V->Value->Prop}{f:V->V}{y:Nat×V}{cs:List Value}{bs:List Nat}(hL:∀ c,L y.2 c->L' (f y.2) c)(h:outK L y cs bs):outK L' (y.1,f y.2) cs bs:=by
 obtain⟨h1,h2,c,h3,h4,h5⟩:=h
 exact⟨h1,h2,c,h3,h4,hL c h5⟩
theorem KW.keeps{w w':World}{M M':Nat->Prop}(k:Keeps w M w' M'){L L':V->Value->Prop}(f:V->V):(t:Kt)->(x:t.sh.den)->(cs:List Value)->(hl:Option (Nat×V))->(bs:List Nat)->(∀ y c,hl=some y->L y.2 c->L' (f y.2) c)->(∀ b,b∈bs->b<w.heap.size->w'.heap[b]? = w.heap[b]?)->KW w M L t x cs hl bs->KW w' M' L' t x cs (hmap f hl) bs
 | .dat s,x,cs,hl,bs,hL,hb,h=>by
  simp only [KW] at h ⊢
  obtain⟨rfl,h1,h2⟩:=h
  exact⟨rfl,h1,RC.keeps k h2⟩
 | .pair a c,x,cs,hl,bs,hL,hb,h=>by
  simp only [KW] at h ⊢
  obtain⟨c1,c2,b1,b2,rfl,rfl,hc,h1,h2⟩:=h
  refine⟨c1,c2,b1,b2,rfl,rfl,hc,?_,?_⟩
  ·rw [qtc]
   refine KW.keeps k f _ _ _ _ _ (fun y c hy=>?_) (fun b h=>hb b (zo _ h)) h1
   obtain⟨z,h3,h4⟩:=qtb hy
   rw [<- h4];exact hL z c h3
  ·rw [qtf]
   refine KW.keeps k f _ _ _ _ _ (fun y c hy=>?_) (fun b h=>hb b (zf _ h)) h2
   obtain⟨z,h3,h4⟩:=qte hy
   rw [<- h4];exact hL z c h3
 | .row e s,x,cs,hl,bs,hL,hb,h=>by
  simp only [KW] at h ⊢
  cases hl with
  | some y=>exact h.imp fun c=>hL _ c rfl
  | none=>obtain⟨c,rfl,h⟩:=h;exact⟨c,rfl,h.keeps k hb⟩
 | .krow e t,x,cs,hl,bs,hL,hb,h=>by
  simp only [KW] at h ⊢
  cases hl with
  | some y=>exact h.imp fun c=>hL _ c rfl
  | none=>
   obtain⟨l,vs,ex,rfl,hn,h1,h2,rfl⟩:=h
   exact⟨l,vs,ex,rfl,hn,h1.keeps (fun b h=>hb b (zo _ (by simp [h]))),KLs.none_imp (P:=fun b=>b<w.heap.size->w'.heap[b]? = w.heap[b]?) (fun x c bs hp h=>KW.keeps k f t x c none bs (fun y _ q=>by cases q) hp h) (fun b h=>hb b (zf _ h)) h2,rfl⟩
 | .map q,x,cs,hl,bs,hL,hb,h=>by
  simp only [KW] at h ⊢
  cases hl with
  | some y=>exact h.imp fun c=>hL _ c rfl
  | none=>
   rcases h with h | ⟨c,rfl,h1,h2,h,rfl⟩
   ·exact .inl h
   ·exact .inr ⟨c,rfl,h1,h2,h.keeps k (fun b q hlt=>by cases q;exact hb c (by simp) hlt),rfl⟩
 | .box e t,x,cs,hl,bs,hL,hb,h=>by
  simp only [KW] at h ⊢
  cases hl with
  | some y=>exact h.imp fun c=>hL _ c rfl
  | none=>
   rcases h with h | ⟨c,vs,ex,e',h1,rfl,hc,h,rfl⟩
   ·exact .inl h
   ·exact .inr ⟨c,vs,ex,e',h1,rfl,by rw [hb c (by simp) (zI.1 hc).1];exact hc,KW.keeps k f _ _ _ none _ (fun y _ q=>by cases q) (fun b h=>hb b (zb _ h)) h,rfl⟩
theorem KVs.keeps{w w':World}{M M':Nat->Prop}(k:Keeps w M w' M'){t:Kt}:{xs:List t.sh.den} -> {vs:List Value} -> {h0:Option Nat} -> {bs:List Nat}->(∀ b,b∈bs->b<w.heap.size->w'.heap[b]? = w.heap[b]?)->KVs w M t xs vs h0 bs->KVs w' M' t xs vs h0 bs
 | [],_,_,_,_,h=>h
 | _ :: _,_,_,_,hl,h=>by
  obtain⟨v,r,b1,b2,rfl,rfl,h1,h2⟩:=h
  exact⟨v,r,b1,b2,rfl,rfl,h1.imp id fun ⟨q,h1⟩=>⟨q,h1.keeps k fun b hb=>hl b (zo _ hb)⟩,KVs.keeps k (fun b hb=>hl b (zf _ hb)) h2⟩
theorem KKs.keeps{w w':World}{M M':Nat->Prop}(k:Keeps w M w' M'){kS:Sh}{α:Type}:{xs:List (Int×(kS.den×α))} -> {es:List MapEntry}->KKs w M kS xs es->KKs w' M' kS xs es
 | [],_,h=>h
 | _ :: _,_,h=>by
  obtain⟨e,r,rfl,h1,h2,h3⟩:=h
  exact⟨e,r,rfl,h1,RV.keeps k (OStep.refl [] σ0) h2,KKs.keeps k h3⟩
theorem RK.link{w w':World}{M M':Nat->Prop}(k:Keeps w M w' M'){L L':V->Value->Prop}(f:V->V){l:Loc}{p:Kp}{t:Kt}{h0:Option (p.ix.den×V)}{d:(p.sh t).den}(hL:∀ y c,h0=some y->L y.2 c->L' (f y.2) c)(hl:∀ b,l.a=some b\/b∈l.ex->b<w.heap.size->w'.heap[b]? = w.heap[b]?)(r:RK w M L l p t h0 d):RK w' M' L' l p t (hmap f h0) d:=by
 cases p with
 | map kt et kS=>
  obtain⟨b,es,clock,ha,hb,hc,h1,h2,h3⟩:=r
  exact⟨b,es,clock,ha,by rw [hl b (.inl ha) (zI.1 hb).1];exact hb,hc,h1.keeps k,(show (hmap f h0).map (·.1)=h0.map (·.1) by cases h0 <;> rfl)▸h2.keeps k (fun b hb=>hl b (.inr hb)),h3⟩
 | row e=>
  obtain⟨hn,vs,h1,h2,h3⟩:=r
  refine⟨hn,vs,h1.keeps (fun b hb=>hl b (.inl hb)),?_,h3⟩
  have:=h2.keeps (L:=L) (L':=L') (f:=f) (fun x c hl bs h3 h4 h=>KW.keeps k f t x c hl bs h3 h4 h) (fun y c hy=>?_) (fun b hb=>hl b (.inr hb))
  ·cases h0 <;> exact this
  ·cases h0 with
   | none=>cases hy
   | some z=>cases hy;exact hL z c rfl
theorem RK.keeps{w w':World}{M M':Nat->Prop}(k:Keeps w M w' M'){L L':V->Value->Prop}{l:Loc}{p:Kp}{t:Kt}{h0:Option (p.ix.den×V)}{d:(p.sh t).den}(hL:∀ y c,h0=some y->L y.2 c->L' y.2 c)(hl:∀ b,l.a=some b\/b∈l.ex->b<w.heap.size->w'.heap[b]? = w.heap[b]?)(r:RK w M L l p t h0 d):RK w' M' L' l p t h0 d:=by
 have:=RK.link k id (L':=L') hL hl r
 rwa [qDC] at this
theorem RO.lt{w:World}{M:Nat->Prop}{h:List O}{σ:Nat->Loc}{l:Loc}{o:O}(r:RO w M h σ l o)(ho:live o){b:Nat}(ha:Oat o l b):b<w.heap.size:=by
 cases o with
 | none=>exact ho.elim
 | gone=>exact ho.elim
 | nst ver q d=>exact RN.lt r ha
 | kds ver p t hl d=>exact RK.lt r ha
 | cells vs=>
  obtain⟨b',e,cs,ha',hb,_⟩:=r
  have ha:l.a=some b:=ha
  rw [ha] at ha';cases ha';exact (zI.1 hb).1
 | row fz ver e s xs=>
  cases fz with
  | true=>exact (r.2.2 b ha).1
  | false=>
   obtain⟨_,cs,r,_⟩:=r
   exact qdi r ha
 | oth fz q xs=>exact r.1.lt ha
theorem qwj{o:O}(h:live o):o≠.none:=by rintro rfl;exact h
theorem RO.keeps{w w':World}{M M':Nat->Prop}{h h':List O}{σ σ':Nat->Loc}(k:Keeps w M w' M')(s:OStep h σ h' σ'){l:Loc}
  : {o:O}->(hl:∀ b,Oat o l b->b<w.heap.size->w'.heap[b]? = w.heap[b]?)->RO w M h σ l o->RO w' M' h' σ' l o
 | .none,_,_=>trivial
 | .gone,_,_=>trivial
 | .nst ver q d,hl,r=>RN.keeps k hl r
 | .kds ver p t h0 d,hl,r=>RK.keeps k (fun _ _ _=>RV.keeps k s) hl r
 | .cells vs,hl,r=>by
  obtain⟨b,e,cs,ha,hb,hr,h1⟩:=r
  exact⟨b,e,cs,ha,by rw [hl b ha (zI.1 hb).1];exact hb,RVs.keeps k s hr,h1⟩
 | .row true ver e t xs,_,r=>by
  obtain⟨h1,h2,h3⟩:=r
  exact⟨h1,RC.keeps k h2,fun b ha=>⟨zM (h3 b ha).1 k.size,k.out b (h3 b ha).1 (h3 b ha).2⟩⟩
 | .row false ver e t xs,hl,r=>by
  obtain⟨h1,cs,h2,h3⟩:=r
  refine⟨h1,cs,qfB h2 fun b hb=>?_,RL.keeps k h3⟩
  have ha:l.a=some b:=by
   cases hla:l.a with
   | none=>simp [rowV,Loc.addr,hla,Value.ownBlock] at hb
   | some b'=>simp [rowV,Loc.addr,hla,Value.ownBlock] at hb;rw [hb]
  exact hl b ha (qdi h2 ha)
 | .oth fz q xs,hl,r=>by
  obtain⟨h1,h2⟩:=r
  exact⟨h1.keeps k hl,fun hf b ha=>k.out b (h1.lt ha) (h2 hf b ha)⟩
structure Goes (w:World) (h:List O) (σ:Nat->Loc) (w':World):Prop where
 os:w'.os=w.os
 tape:TDr w w'
 output:w'.output=w.output
 size:w.heap.size<=w'.heap.size
 block:∀ b,b<w.heap.size->¬ own h σ b->w'.heap[b]? = w.heap[b]?
structure Next (w0:World) (A M0:Nat->Prop) (w:World) (h:List O) (σ:Nat->Loc) (w':World) (h':List O) (σ':Nat->Loc):Prop where
 rep:Rep w0 A M0 w' h' σ'
 goes:Goes w h σ w'
 keeps:Keeps w (mutb M0 h σ) w' (mutb M0 h' σ')
 step:OStep h σ h' σ'
theorem Rep.lt{w0:World}{A M0:Nat->Prop}{w:World}{h:List O}{σ:Nat->Loc}(R:Rep w0 A M0 w h σ){b:Nat}(hb:own h σ b):b<w.heap.size:=by
 obtain⟨o,hl,ha⟩:=hb
 exact (R.obj o).lt hl ha
theorem Rep.mlt{w0:World}{A M0:Nat->Prop}{w:World}{h:List O}{σ:Nat->Loc}(R:Rep w0 A M0 w h σ){b:Nat}(hb:mutb M0 h σ b):b<w.heap.size:=by
 rcases hb with hb | hb
 ·exact zM (R.m0 b hb).1 R.fr.size
 ·exact R.lt hb
theorem Fr.goes{w0:World}{A M0:Nat->Prop}{w w':World}{h:List O}{σ:Nat->Loc}(R:Rep w0 A M0 w h σ)(g:Goes w h σ w'):Fr w0 A w':=
 ⟨g.os.trans R.fr.os,g.tape.trans R.fr.tape,g.output.trans R.fr.output,zn R.fr.size g.size,fun b hb hA=>by
  rw [g.block b (zM hb R.fr.size) (fun ho=>by rcases R.inA b ho with h | h;exact hA h;omega)]
  exact R.fr.block b hb hA⟩
theorem Next.refl{w0:World}{A M0:Nat->Prop}{w:World}{h:List O}{σ:Nat->Loc}(R:Rep w0 A M0 w h σ):Next w0 A M0 w h σ w h σ:=
 ⟨R,⟨rfl,TDr.rfl,rfl,Nat.le_refl _,fun _ _ _=>rfl⟩,⟨Nat.le_refl _,fun _ _ _=>rfl,fun _ _ h=>h⟩,OStep.refl _ _⟩
theorem Next.trans{w0:World}{A M0:Nat->Prop}{w w1 w2:World}{h h1 h2:List O}{σ σ1 σ2:Nat->Loc}(a:Next w0 A M0 w h σ w1 h1 σ1)(b:Next w0 A M0 w1 h1 σ1 w2 h2 σ2)
  (R:Rep w0 A M0 w h σ):Next w0 A M0 w h σ w2 h2 σ2:=by
 refine⟨b.rep,⟨b.goes.os.trans a.goes.os,b.goes.tape.trans a.goes.tape,b.goes.output.trans a.goes.output,zn a.goes.size b.goes.size,fun k hk ho=>?_⟩,
  ⟨zn a.keeps.size b.keeps.size,fun k hk hm=>?_,fun k hk hm=>b.keeps.out k (zM hk a.keeps.size) (a.keeps.out k hk hm)⟩,a.step.trans b.step⟩
 ·by_cases hM:M0 k
  ·have:=(R.m0 k hM).1
   rw [b.rep.fr.block k this (R.m0 k hM).2,R.fr.block k this (R.m0 k hM).2]
  ·have e1:=a.goes.block k hk ho
   have e2:¬ mutb M0 h1 σ1 k:=a.keeps.out k hk (fun e=>e.elim hM ho)
   rw [b.goes.block k (zM hk a.goes.size) (fun e=>e2 (.inr e)),e1]
 ·rw [b.keeps.block k (zM hk a.keeps.size) (a.keeps.out k hk hm),a.keeps.block k hk hm]
theorem Next.rv{w0:World}{A M0:Nat->Prop}{w w':World}{h h':List O}{σ σ':Nat->Loc}(n:Next w0 A M0 w h σ w' h' σ'){v:V}{x:Value}(hv:RV w (mutb M0 h σ) h σ v x) :
  RV w' (mutb M0 h' σ') h' σ' v x:=RV.keeps n.keeps n.step hv
theorem Next.grow{w0:World}{A M0:Nat->Prop}{w w':World}{h:List O}{σ:Nat->Loc}(R:Rep w0 A M0 w h σ)(g:Below w.heap.size w w'):Next w0 A M0 w h σ w' h σ:=by
 have k:Keeps w (mutb M0 h σ) w' (mutb M0 h σ):=⟨g.size,fun b hb _=>g.block b hb,fun _ _ h=>h⟩
 have gs:Goes w h σ w':=⟨g.os,g.tape,g.output,g.size,fun b hb _=>g.block b hb⟩
 exact⟨⟨Fr.goes R gs,R.m0,R.inA,R.apart,fun o=>(R.obj o).keeps k (OStep.refl _ _) (fun b _ hb=>g.block b hb)⟩,gs,k,OStep.refl _ _⟩
theorem Next.updG{w0:World}{A M0:Nat->Prop}{w w':World}{h h':List O}{σ σ':Nat->Loc}(R:Rep w0 A M0 w h σ)(o:Nat)
  (hos:w'.os=w.os) (htape:TDr w w') (hout:w'.output=w.output) (hsize:w.heap.size<=w'.heap.size)
  (hsame:∀ o',o'≠o->getO h' o'=getO h o'/\σ' o'=σ o')
  (hblock:∀ b,b<w.heap.size->(live (getO h o)->¬ Oat (getO h o) (σ o) b)->w'.heap[b]? = w.heap[b]?)
  (hown:∀ b,live (getO h' o)->Oat (getO h' o) (σ' o) b->(live (getO h o)/\Oat (getO h o) (σ o) b)\/w.heap.size<=b)
  (hstep:match getO h o with
   | .none=>True
   | .cells _=>(∃ vs',getO h' o=.cells vs'/\σ' o=σ o)\/(getO h' o=.gone/\(σ' o).a=(σ o).a)
   | .row _ ver _ s xs=>∃ fz' ver' e' s' xs',getO h' o=.row fz' ver' e' s' xs'/\ver<=ver'/\(ver=ver'->σ' o=σ o/\s'=s/\xs'.length=xs.length)
   | .oth _ q _=>(mapLk q.it (getO h' o)\/getO h' o=.gone)/\(σ' o).a=(σ o).a
   | .kds ver p t _ d=>KStep ver p (kLen p t d) t.n (σ o) (getO h' o) (σ' o)
   | .nst ver q _=>(∃ ver' xs',getO h' o=.nst ver' q xs'/\ver<=ver'/\(σ' o).a=(σ o).a/\(ver=ver'->∀ i c:Nat,(σ o).ex[i]? = some c->(σ' o).ex[i]? = some c))\/(getO h' o=.gone/\(σ' o).a=(σ o).a)
   | .gone=>getO h' o=.gone/\(σ' o).a=(σ o).a)
  (hobj:Keeps w (mutb M0 h σ) w' (mutb M0 h' σ')->OStep h σ h' σ'->RO w' (mutb M0 h' σ') h' σ' (σ' o) (getO h' o)) :
  Next w0 A M0 w h σ w' h' σ':=by
 have ownd:∀ b,b<w.heap.size->own h' σ' b->own h σ b:=fun b hb ⟨o',hl,ha⟩=>by
  by_cases e:o'=o
  ·subst e
   rcases hown b hl ha with⟨hl',ha'⟩ | hge
   ·exact⟨o',hl',ha'⟩
   ·omega
  ·rw [(hsame o' e).1] at hl ha;rw [(hsame o' e).2] at ha;exact⟨o',hl,ha⟩
 have gs:Goes w h σ w':=⟨hos,htape,hout,hsize,fun b hb ho=>hblock b hb (fun hl ha=>ho ⟨o,hl,ha⟩)⟩
 have k:Keeps w (mutb M0 h σ) w' (mutb M0 h' σ'):=⟨hsize,fun b hb hm=>hblock b hb (fun hl ha=>hm (.inr ⟨o,hl,ha⟩)),fun b hb hm hm'=>by
  rcases hm' with hm' | hm'
  ·exact hm (.inl hm')
  ·exact hm (.inr (ownd b hb hm'))⟩
 have st:OStep h σ h' σ':=fun o'=>by
  by_cases e:o'=o
  ·subst e;exact hstep
  ·have:=OStep.refl h σ o'
   rw [(hsame o' e).1,(hsame o' e).2]
   exact this
 have hold:∀ b,live (getO h' o)->Oat (getO h' o) (σ' o) b->∀ o',o'≠o->live (getO h o')->Oat (getO h o') (σ o') b->False:=fun b hl ha o' e hl' ha'=>by
  have hb:=(R.obj o').lt hl' ha'
  rcases hown b hl ha with⟨hl'',ha''⟩ | hge
  ·exact e (R.apart o' o b hl' hl'' ha' ha'')
  ·omega
 refine⟨⟨Fr.goes R gs,R.m0,fun b hb=>?_,fun o1 o2 b h1 h2 a1 a2=>?_,fun o'=>?_⟩,gs,k,st⟩
 ·rcases zAO b w.heap.size with hlt | hge
  ·exact R.inA b (ownd b hlt hb)
  ·exact .inr (zn R.fr.size hge)
 ·by_cases e1:o1=o
  ·by_cases e2:o2=o
   ·rw [e1,e2]
   ·subst e1
    rw [(hsame o2 e2).1] at h2 a2;rw [(hsame o2 e2).2] at a2
    exact (hold b h1 a1 o2 e2 h2 a2).elim
  ·by_cases e2:o2=o
   ·subst e2
    rw [(hsame o1 e1).1] at h1 a1;rw [(hsame o1 e1).2] at a1
    exact (hold b h2 a2 o1 e1 h1 a1).elim
   ·rw [(hsame o1 e1).1] at h1 a1;rw [(hsame o1 e1).2] at a1
    rw [(hsame o2 e2).1] at h2 a2;rw [(hsame o2 e2).2] at a2
    exact R.apart o1 o2 b h1 h2 a1 a2
 ·by_cases e:o'=o
  ·subst e;exact hobj k st
  ·rw [(hsame o' e).1,(hsame o' e).2]
   have r:=R.obj o'
   cases eo:getO h o' with
   | none=>trivial
   | gone=>trivial
   | nst ver q d=>
    rw [eo] at r
    exact r.keeps k st fun b ha hb=>hblock b hb fun hl ha'=>e (R.apart o' o b (by rw [eo];trivial) hl (by rw [eo];exact ha) ha')
   | kds ver p t h0 d=>
    rw [eo] at r
    exact r.keeps k st fun b ha hb=>hblock b hb fun hl ha'=>e (R.apart o' o b (by rw [eo];trivial) hl (by rw [eo];exact ha) ha')
   | cells vs=>
    rw [eo] at r
    exact r.keeps k st fun b ha hb=>hblock b hb fun hl ha'=>e (R.apart o' o b (by rw [eo];trivial) hl (.of ha) ha')
   | row fz ver ty s xs=>
    rw [eo] at r
    refine r.keeps k st fun b ha hb=>hblock b hb fun hl ha'=>?_
    cases fz with
    | false=>exact e (R.apart o' o b (by rw [eo];rfl) hl (.of ha) ha')
    | true=>exact (r.2.2 b ha).2 (.inr ⟨o,hl,ha'⟩)
   | oth fz q xs=>
    rw [eo] at r
    refine r.keeps k st fun b ha hb=>hblock b hb fun hl ha'=>?_
    cases fz with
    | false=>exact e (R.apart o' o b (by rw [eo];rfl) hl (.of ha) ha')
    | true=>exact r.2 rfl b ha (.inr ⟨o,hl,ha'⟩)
theorem RO.same{w0:World}{A M0:Nat->Prop}{w w':World}{h h':List O}{σ σ':Nat->Loc}{M':Nat->Prop}(R:Rep w0 A M0 w h σ)(k:Keeps w (mutb M0 h σ) w' M')(st:OStep h σ h' σ')(o':Nat)
  (hb:∀ b,b<w.heap.size->w'.heap[b]? = w.heap[b]? \/ ∃ o,o≠o'/\live (getO h o)/\Oat (getO h o) (σ o) b):RO w' M' h' σ' (σ o') (getO h o'):=by
 have r:=R.obj o'
 have key:∀ b,b<w.heap.size->live (getO h o')->Oat (getO h o') (σ o') b->w'.heap[b]? = w.heap[b]?:=fun b hlt hl ha=>by
  rcases hb b hlt with h | ⟨o,h1,h2,h3⟩
  ·exact h
  ·exact absurd (R.apart o o' b h2 hl h3 ha) h1
 have fr:∀ b,b<w.heap.size->¬ mutb M0 h σ b->w'.heap[b]? = w.heap[b]?:=fun b hlt hm=>by
  rcases hb b hlt with h | ⟨o,h1,h2,h3⟩
  ·exact h
  ·exact absurd (.inr ⟨o,h2,h3⟩) hm
 cases eo:getO h o' with
 | none=>trivial
 | gone=>trivial
 | nst ver q d=>
  rw [eo] at r key
  exact r.keeps k st fun b ha hlt=>key b hlt trivial ha
 | kds ver p t h0 d=>
  rw [eo] at r key
  exact r.keeps k st fun b ha hlt=>key b hlt trivial ha
 | cells vs=>
  rw [eo] at r key
  exact r.keeps k st fun b ha hlt=>key b hlt trivial ha
 | row fz ver ty s xs=>
  rw [eo] at r key
  refine r.keeps k st fun b ha hlt=>?_
  cases fz with
  | false=>exact key b hlt rfl ha
  | true=>exact fr b hlt (r.2.2 b ha).2
 | oth fz q xs=>
  rw [eo] at r key
  refine r.keeps k st fun b ha hlt=>?_
  cases fz with
  | false=>exact key b hlt rfl ha
  | true=>exact fr b hlt (r.2 rfl b ha)
theorem Next.gen{w0:World}{A M0:Nat->Prop}{w w':World}{h h':List O}{σ σ':Nat->Loc}(R:Rep w0 A M0 w h σ)
  (hos:w'.os=w.os) (htape:TDr w w') (hout:w'.output=w.output) (hsize:w.heap.size<=w'.heap.size)
  (hown:∀ b,own h' σ' b->own h σ b\/w.heap.size<=b)
  (hblock:∀ b,b<w.heap.size->¬ own h σ b->w'.heap[b]? = w.heap[b]?)
  (hap:∀ o o' b,live (getO h' o)->live (getO h' o')->Oat (getO h' o) (σ' o) b->Oat (getO h' o') (σ' o') b->o=o')
  (hstep:OStep h σ h' σ')
  (hobj:Keeps w (mutb M0 h σ) w' (mutb M0 h' σ')->∀ o,RO w' (mutb M0 h' σ') h' σ' (σ' o) (getO h' o)) :
  Next w0 A M0 w h σ w' h' σ':=by
 have gs:Goes w h σ w':=⟨hos,htape,hout,hsize,hblock⟩
 have k:Keeps w (mutb M0 h σ) w' (mutb M0 h' σ'):=⟨hsize,fun b hb hm=>hblock b hb fun ho=>hm (.inr ho),fun b hb hm hm'=>by
  rcases hm' with hm' | hm'
  ·exact hm (.inl hm')
  ·rcases hown b hm' with h | h
   ·exact hm (.inr h)
   ·omega⟩
 refine⟨⟨Fr.goes R gs,R.m0,fun b hb=>?_,hap,hobj k⟩,gs,k,hstep⟩
 rcases hown b hb with h | h
 ·exact R.inA b h
 ·exact .inr (zn R.fr.size h)
theorem Rep.own_m0{w0:World}{A M0:Nat->Prop}{w:World}{h:List O}{σ:Nat->Loc}(R:Rep w0 A M0 w h σ){b:Nat}(ho:own h σ b):¬ M0 b:=fun hm=>by
 obtain⟨x1,x2⟩:=R.m0 b hm
 rcases R.inA b ho with h | h
 ·exact x2 h
 ·omega
theorem Next.upd{w0:World}{A M0:Nat->Prop}{w w':World}{h h':List O}{σ σ':Nat->Loc}(R:Rep w0 A M0 w h σ)(o:Nat)
  (hf:flatO (getO h o)) (hf':flatO (getO h' o))
  (hos:w'.os=w.os) (htape:TDr w w') (hout:w'.output=w.output) (hsize:w.heap.size<=w'.heap.size)
  (hsame:∀ o',o'≠o->getO h' o'=getO h o'/\σ' o'=σ o')
  (hblock:∀ b,b<w.heap.size->(live (getO h o)->(σ o).a≠some b)->w'.heap[b]? = w.heap[b]?)
  (hown:∀ b,live (getO h' o)->(σ' o).a=some b->(live (getO h o)/\(σ o).a=some b)\/w.heap.size<=b)
  (hstep:match getO h o with
   | .none=>True
   | .cells _=>∃ vs',getO h' o=.cells vs'/\σ' o=σ o
   | .row _ ver _ s xs=>∃ fz' ver' e' s' xs',getO h' o=.row fz' ver' e' s' xs'/\ver<=ver'/\(ver=ver'->σ' o=σ o/\s'=s/\xs'.length=xs.length)
   | .oth _ q _=>mapLk q.it (getO h' o)/\(σ' o).a=(σ o).a
   | _=>False)
  (hobj:Keeps w (mutb M0 h σ) w' (mutb M0 h' σ')->OStep h σ h' σ'->RO w' (mutb M0 h' σ') h' σ' (σ' o) (getO h' o)) :
  Next w0 A M0 w h σ w' h' σ':=by
 refine Next.updG R o hos htape hout hsize hsame (fun b hb hn=>hblock b hb fun hl ha=>hn hl (.of ha)) (fun b hl ha=>(hown b hl (ha.flat hf')).imp (fun h=>⟨h.1,.of h.2⟩) id) ?_ hobj
 cases e:getO h o with
 | none=>trivial
 | gone=>rw [e] at hstep;exact hstep.elim
 | nst ver q d=>rw [e] at hf;exact hf.elim
 | cells vs=>rw [e] at hstep;exact .inl hstep
 | row fz ver ty s xs=>rw [e] at hstep;exact hstep
 | kds ver p t h0 d=>rw [e] at hf;exact hf.elim
 | oth fz q xs=>rw [e] at hstep;exact⟨.inl hstep.1,hstep.2⟩
end Go.Abs
namespace Go.Abs
open Go.RowKit
theorem qau{s s':Sh}{x:s.den}{y:s'.den}(h:qbn x=some y):∃ e:s=s',y=e▸x:=by
 unfold qbn at h
 split at h
 ·rename_i e;exact⟨e,by simpa using h.symm⟩
 ·cases h
def Sub(hm h:List O):Prop:=∀ o,getO hm o=.none\/getO hm o=getO h o
theorem Sub.refl(h:List O):Sub h h:=fun _=>.inr rfl
theorem Sub.get{hm h:List O}(s:Sub hm h){o:Nat}{x:O}(e:getO hm o=x)(hx:x≠.none):getO h o=x:=by
 rcases s o with h' | h'
 ·rw [e] at h';exact absurd h' hx
 ·rw [<- h',e]
theorem qje{w:World}{e:TypeId}{s:Sh}{l:Loc}{xs:List s.den}{cs:List Value}{M Mt:Nat->Prop}(h:w.ownsRow 0 e s.n (rowV l xs.length) xs.length cs)(hr:RL w M s xs cs)
  (hsub:∀ b,Mt b->M b) (hb:∀ b,l.a=some b->¬ Mt b):RC w Mt (.sl s) xs [rowV l xs.length]:=by
 simp only [RC]
 have h0:=h
 rcases h.2 with⟨hv,hn⟩ | ⟨g,cap,cur,hv,_,hg,hle,hcap,hsz,htake⟩
 ·refine⟨none,0,by rw [hv,hn],by omega,zAE _,fun hne=>absurd (zY hn) hne⟩
 ·refine⟨some ⟨g,0,none⟩,cap,by rw [hv],hle,by simpa [maxLen,maxI] using hcap,fun _=>⟨g,0,rfl,(zI.1 hg).1,?_,?_⟩⟩
  ·simp only [rowV,Loc.addr,Value.slice.injEq] at hv
   cases hla:l.a with
   | none=>rw [hla] at hv;simp at hv
   | some b=>rw [hla] at hv;simp at hv;exact hb g (by rw [hla,hv.1])
  ·rw [hv] at h0
   have hc:qay w g 0 cs:=.own hg fun j v hj=>by
    rw [Nat.zero_add,World.ownsRow.cellAt h0 j (by have:=(zS.1 hj).1;rw [hr.length] at this;exact this)]
    exact hj
   have:=RL.row hr hc
   intro i x hx
   obtain⟨c,h1,h2⟩:=this i x hx
   exact⟨c,h1,RC.sub hsub h2⟩
def RefOk(hm:List O)(σ:Nat->Loc)(Mt:Nat->Prop)(v:V):Prop:=
 ∀ o ver,v=.slc o ver->∀ ver' e s xs,getO hm o=.row false ver' e s xs->ver=ver'->∀ b,(σ o).a=some b->¬ Mt b
section
variable {w0 : World} {A M0 : Nat -> Prop} {w : World} {h hm : List O} {σ : Nat -> Loc}
theorem qql(R:Rep w0 A M0 w h σ)(hs:Sub hm h){Mt:Nat->Prop}(hsub:∀ b,Mt b->mutb M0 h σ b){s:Sh}{v:V}{x:Value}(hv:RV w (mutb M0 h σ) h σ v x)(hr:RefOk hm σ Mt v)
  {xs:List s.den} (hd:decSl hm s v=some xs):RC w Mt (.sl s) xs [x]:=by
 cases v with
 | nil=>
  simp only [decSl,zD] at hd
  subst hd
  simp only [RV] at hv
  subst hv
  exact⟨none,0,rfl,Nat.le_refl _,zAE _,fun h=>absurd rfl h⟩
 | sl s' ys=>
  simp only [decSl] at hd
  obtain⟨e,rfl⟩:=qau hd
  cases e
  simp only [RV] at hv
  exact RC.sub hsub hv
 | slc o ver=>
  simp only [decSl] at hd
  split at hd
  ·rename_i fz ver' e s' ys eo
   cases hvv:Nat.beq ver ver' with
   | false=>simp [hvv] at hd
   | true=>
    have hvv':=zB hvv
    simp only [hvv,cond_true] at hd
    obtain⟨ee,rfl⟩:=qau hd
    cases ee
    simp only [RV] at hv
    obtain⟨fz1,ver1,e1,s1,xs1,eo1,hl,_,hx⟩:=hv
    have eh:=hs.get eo (by simp)
    rw [eh] at eo1
    cases eo1
    rw [hx hvv']
    have ro:=R.obj o
    rw [eh] at ro
    cases fz with
    | true=>exact RC.sub hsub ro.2.1
    | false=>
     obtain⟨_,cs,h1,h2⟩:=ro
     exact qje h1 h2 hsub (fun b hb=>hr o ver rfl ver' _ _ _ eo hvv' b hb)
  ·cases hd
 | _=>simp [decSl] at hd
theorem qma(R:Rep w0 A M0 w h σ)(hs:Sub hm h){Mt:Nat->Prop}(hsub:∀ b,Mt b->mutb M0 h σ b):(s:Sh) -> {vs:List V} -> {cs:List Value}->RVs w (mutb M0 h σ) h σ vs cs ->
  (∀ v∈vs,RefOk hm σ Mt v) -> {x:s.den} -> {r:List V}->dec hm s vs=some (x,r) ->
  ∃ c d,cs=c++d/\RC w Mt s x c/\RVs w (mutb M0 h σ) h σ r d/\(∀ v∈r,v∈vs)
 | .int k,vs,cs,hv,hr,x,r,hd=>by
  simp only [dec] at hd
  split at hd
  ·rename_i k' n r'
   split at hd
   ·rename_i ek
    simp only [zD,zN] at hd
    obtain⟨rfl,rfl⟩:=hd
    simp only [RVs] at hv
    obtain⟨y,ys,rfl,h1,h2⟩:=hv
    simp only [RV] at h1
    subst h1
    exact⟨[_],ys,rfl,by rw [ek];rfl,h2,fun v hv=>zb _ hv⟩
   ·cases hd
  ·cases hd
 | .bool,vs,cs,hv,hr,x,r,hd=>by
  simp only [dec] at hd
  split at hd
  ·rename_i b r'
   simp only [zD,zN] at hd
   obtain⟨rfl,rfl⟩:=hd
   simp only [RVs] at hv
   obtain⟨y,ys,rfl,h1,h2⟩:=hv
   simp only [RV] at h1
   subst h1
   exact⟨[_],ys,rfl,rfl,h2,fun v hv=>zb _ hv⟩
  ·cases hd
 | .unit,vs,cs,hv,hr,x,r,hd=>by
  simp only [dec,zD,zN] at hd
  obtain⟨-,rfl⟩:=hd
  exact⟨[],cs,rfl,rfl,hv,fun v hv=>hv⟩
 | .pair a b,vs,cs,hv,hr,x,r,hd=>by
  simp only [dec] at hd
  split at hd
  ·cases hd
  ·rename_i xa r1 h1
   split at hd
   ·cases hd
   ·rename_i xb r2 h2
    simp only [zD,zN] at hd
    obtain⟨rfl,rfl⟩:=hd
    obtain⟨c,d,rfl,hc,hd',hm1⟩:=qma R hs hsub a hv hr h1
    obtain⟨c',d',rfl,hc',hd'',hm2⟩:=qma R hs hsub b hd' (fun v hv=>hr v (hm1 v hv)) h2
    exact⟨c++c',d',by simp,⟨c,c',rfl,hc,hc'⟩,hd'',fun v hv=>hm1 v (hm2 v hv)⟩
 | .sl s,vs,cs,hv,hr,x,r,hd=>by
  simp only [dec] at hd
  split at hd
  ·rename_i v r'
   split at hd
   ·rename_i xs hx
    simp only [zD,zN] at hd
    obtain⟨rfl,rfl⟩:=hd
    simp only [RVs] at hv
    obtain⟨y,ys,rfl,h1,h2⟩:=hv
    exact⟨[y],ys,rfl,qql R hs hsub h1 (hr _ (zAH ..)) hx,h2,fun v hv=>zb _ hv⟩
   ·cases hd
  ·cases hd
theorem qcf(R:Rep w0 A M0 w h σ)(hs:Sub hm h){Mt:Nat->Prop}(hsub:∀ b,Mt b->mutb M0 h σ b){s:Sh}{vs:List V}{cs:List Value}(hv:RVs w (mutb M0 h σ) h σ vs cs)
  (hr:∀ v∈vs,RefOk hm σ Mt v) {x:s.den} (hd:qea hm s vs=some x):RC w Mt s x cs:=by
 unfold qea at hd
 split at hd
 ·rename_i y e
  simp only [zD] at hd
  subst hd
  obtain⟨c,d,rfl,h1,h2,_⟩:=qma R hs hsub s hv hr e
  simp only [RVs] at h2
  subst h2
  simpa using h1
 ·cases hd
theorem qeW(R:Rep w0 A M0 w h σ)(hs:Sub hm h){Mt:Nat->Prop}(hsub:∀ b,Mt b->mutb M0 h σ b){s:Sh}:(n:Nat) -> {vs:List V} -> {cs:List Value}->RVs w (mutb M0 h σ) h σ vs cs ->
  (∀ v∈vs,RefOk hm σ Mt v) -> {xs:List s.den}->qfC hm s n vs=some xs->RL w Mt s xs cs/\xs.length=n
 | 0,vs,cs,hv,hr,xs,hd=>by
  cases vs with
  | nil=>simp only [qfC,zD] at hd;subst hd;simp only [RVs] at hv;exact⟨hv,rfl⟩
  | cons v vs=>simp [qfC] at hd
 | n+1,vs,cs,hv,hr,xs,hd=>by
  simp only [qfC] at hd
  split at hd
  ·cases hd
  ·rename_i y r h1
   split at hd
   ·cases hd
   ·rename_i ys h2
    simp only [zD] at hd
    subst hd
    obtain⟨c,d,rfl,hc,hd',hm1⟩:=qma R hs hsub s hv hr h1
    obtain⟨h3,h4⟩:=qeW R hs hsub n hd' (fun v hv=>hr v (hm1 v hv)) h2
    exact⟨⟨c,d,rfl,hc,h3⟩,by simp [h4]⟩
end
mutual
theorem qbM{w:World}{M:Nat->Prop}{h:List O}{σ:Nat->Loc}:(s:Sh) -> {x:s.den} -> {cs:List Value}->RC w M s x cs->RVs w M h σ (encL s x) cs
 | .int _,_,_,hr=>by simp only [RC] at hr;subst hr;exact⟨_,_,rfl,rfl,rfl⟩
 | .bool,_,_,hr=>by simp only [RC] at hr;subst hr;exact⟨_,_,rfl,rfl,rfl⟩
 | .unit,_,_,hr=>by simp only [RC] at hr;subst hr;rfl
 | .pair a b,_,_,hr=>by
  simp only [RC] at hr
  obtain⟨c,d,rfl,h1,h2⟩:=hr
  exact (qbM a h1).append (qbM b h2)
 | .sl s,_,cs,hr=>by
  have hr':=hr
  simp only [RC] at hr
  obtain⟨a,cap,rfl,_⟩:=hr
  exact⟨_,_,rfl,hr',rfl⟩
end
end Go.Abs
namespace Go.Abs
open Go.RowKit
def zeroV:List V->List Value->Bool
 | [],vs=>vs.isEmpty
 | v :: r,vs=>
  match vs with
  | []=>false
  | x :: xs=>
   (match v with
    | .int k n=>(match x with | .int k' n'=>decide (k=k')&&decide (n=n') | _=>false)
    | .bool b=>(match x with | .bool b'=>decide (b=b') | _=>false)
    | .nil=>(match x with | .slice none 0 0=>true | _=>false)
    | .nl k=>(match k with | .ptr=>(match x with | .pointer none=>true | _=>false) | .map=>(match x with | .map none=>true | _=>false) | .ifc=>(match x with | .nilIface=>true | _=>false))
    | .bad=>x.oneCell'
    | _=>false)&&zeroV r xs
def qiO:Sh->List Value->Option (List Value)
 | .int k,vs=>(match vs with | .int k' n :: r=>if k=k'/\n=0 then some r else none | _=>none)
 | .bool,vs=>(match vs with | .bool b :: r=>if b=false then some r else none | _=>none)
 | .unit,vs=>some vs
 | .pair a b,vs=>(match qiO a vs with | some r=>qiO b r | none=>none)
 | .sl _,vs=>(match vs with | .slice none 0 0 :: r=>some r | _=>none)
def qeb(P:Program)(t:TypeId)(s:Sh):Bool:=
 match s with
 | .int q=>(match P.underlying t with | some (.int q')=>decide (q'=q) | _=>false)
 | .bool=>(match P.underlying t with | some .bool=>true | _=>false)
 | _=>false
def qfw(P:Program):List Field->Sh->Nat->Bool
 | [],s,_=>decide (s=.unit)
 | f :: r,s,off=>
  match r with
  | [] => Nat.beq f.offset off && (f.name != "_" && qeb P f.type s)
  | _ :: _=>
   match s with
   | .pair a b => Nat.beq f.offset off && (f.name != "_" && (qeb P f.type a && qfw P r b (off + 1)))
   | _=>false
def qcp(g:TypeId->Sh->Bool):List Field->Sh->Nat->Bool
 | [],s,_=>decide (s=.unit)
 | f :: r,s,off=>
  match r with
  | [] => Nat.beq f.offset off && (f.name != "_" && g f.type s)
  | _ :: _=>
   match s with
   | .pair a b => Nat.beq f.offset off && (f.name != "_" && (g f.type a && qcp g r b (off + a.n)))
   | _=>false
def arrSh:Nat->Sh->Sh
 | 0,_=>.unit
 | 1,s=>s
 | n+2,s=>.pair s (arrSh (n+1) s)
def qdB(P:Program):Nat->TypeId->Sh->Bool
 | 0,_,_=>false
 | n+1,t,s=>
  match P.underlying t with
  | some (.struct fs)=>s.isAgg&&(!P.stoodInHeld t&&(Nat.beq (P.cellsOf t) s.n&&qcp (qdB P n) fs.toList s 0))
  | some (.array m e)=>
   (match s with
    | .pair a _=>Nat.ble 2 m&&(decide (s=arrSh m a)&&(qeb P e a&&(Nat.beq (P.cellsOf t) s.n&&Nat.beq (P.cellsOf e) 1)))
    | _=>false)
  | _=>!s.isAgg&&qeb P t s
def keyOk(P:Program)(t:TypeId)(k:Sh):Bool:=
 match P.underlying t with
 | some (.struct fs)=>k.isAgg&&(!P.stoodInHeld t&&(qfw P fs.toList k 0||qdB P 4 t k))
 | _=>!k.isAgg&&qeb P t k
def zOk(P:Program)(t:TypeId)(s:Sh):Bool:=
 match P.info? t with
 | none=>false
 | some i=>
  match i.zero with
  | none=>false
  | some z=>(match z with | .agg _=>s.isAgg | _=>!s.isAgg)&&(match qiO s z.cells.toList with | some []=>true | _=>false)
def kidOk(P:Program)(t:TypeId)(kd:Kid):Bool:=
 match kd with
 | .map q=>
  (match P.info? t with
   | none=>false
   | some i=>(match i.zero with | some (.map none)=>true | _=>false)) &&
  (match P.underlying t with
   | some (.map k e)=>Nat.beq k q.kt&&Nat.beq e q.et && !q.it
   | _=>false)
 | .row _ _=>false
def tdOk(P:Program)(t:TypeId)(d:TD):Bool:=
 match P.underlying t with
 | none=>false
 | some u=>
  match d with
  | .int k=>(match u with | .int k'=>decide (k=k') | _=>false)
  | .bool=>(match u with | .bool=>true | _=>false)
  | .slice e=>(match u with | .slice e'=>Nat.beq e e' | _=>false)
  | .array n e=>(match u with | .array n' e'=>Nat.beq n n'&&Nat.beq e e' | _=>false)
  | .struct fs=>(match u with | .struct gs=>decide (gs.toList.map (fun f=>(f.offset,f.type))=fs)&&gs.toList.all (fun f=>(P.info? f.type).isSome) | _=>false)
  | .map k e ks vs=>(match u with | .map k' e'=>Nat.beq k k'&&Nat.beq e e'&&(keyOk P k ks&&zOk P e vs) | _=>false)
  | .nmap k e ks kd=>(match u with | .map k' e'=>Nat.beq k k'&&Nat.beq e e'&&(keyOk P k ks&&kidOk P e kd) | _=>false)
  | .str=>(match u with | .string=>true | _=>false)
  | .ptr=>(match u with | .pointer _=>true | _=>false)
  | .ifc=>(match u with | .interface _=>true | _=>false)
  | .other=>(match u with | .struct _=>false | .array _ _=>false | _=>true)
def quy(P:Program)(t:TypeId)(nm:String)(f:Nat):Bool:=
 match P.info? t with
 | none=>false
 | some i=>
  match i.methods.find? (·.name==nm) with
  | none=>false
  | some m=>
   match m.path.toList with
   | _ :: _=>false
   | []=>
    match m.func with
    | none=>false
    | some (g,pr)=>Nat.beq g f&&(match P.underlying t with | none=>false | some u=>(match u with | .pointer _=>pr | _=>!pr))
def teOk(P:Program)(t:TypeId)(te:TE):Bool:=
 match P.info? t with
 | none=>false
 | some i=>
  Nat.beq i.size te.size&&Nat.beq i.bytes te.bytes&&tdOk P t te.d &&
  (match i.zero with
   | none=>false
   | some z=>Nat.beq z.cells.size te.size&&zeroV te.zero z.cells.toList &&
    (match te.sh with
     | none=>true
     | some s=>Nat.beq s.n te.size&&(match qiO s z.cells.toList with | some []=>true | _=>false))) &&
  (!te.key||(match te.sh with | some s=>qdB P 4 t s && !(P.eqGuardType P.depth t) | none=>false))&&te.ms.all (fun m=>quy P t m.1 m.2)
def TOk(P:Program)(T:List (Nat×TE)):Prop:=T.all (fun p=>teOk P p.1 p.2)=true
theorem qzi{T:List (Nat×TE)}{t:Nat}{te:TE}(h:tlook T t=some te):(t,te)∈T:=by
 induction T with
 | nil=>simp [tlook] at h
 | cons p T ih=>
  obtain⟨k,e⟩:=p
  simp only [tlook] at h
  cases hk:Nat.beq k t with
  | true=>
   rw [hk] at h;simp at h
   have:=zB hk
   subst this;subst h;simp
  | false=>rw [hk] at h;simp at h;exact zb _ (ih h)
theorem qip{w:World}{M:Nat->Prop}{h:List O}{σ:Nat->Loc}:(vs:List V) -> {xs:List Value}->zeroV vs xs=true->RVs w M h σ vs xs/\∀ c∈xs,c.oneCell'=true
 | [],xs,hz=>by
  simp only [zeroV,zCL] at hz
  subst hz
  exact⟨rfl,fun c hc=>by cases hc⟩
 | v :: r,xs,hz=>by
  cases xs with
  | nil=>simp [zeroV] at hz
  | cons x xs=>
   simp only [zeroV,zA] at hz
   obtain⟨h1,h2⟩:=hz
   obtain⟨i1,i2⟩:=qip (w:=w) (M:=M) (h:=h) (σ:=σ) r h2
   have:RV w M h σ v x/\x.oneCell'=true:=by
    cases v <;> simp only [zAC] at h1
    ·exact⟨by simp only [RV],h1⟩
    ·rename_i k
     cases k <;> simp only at h1 <;> split at h1 <;> first | (cases h1;done) | exact⟨by simp only [RV,Nl.val],rfl⟩
    ·split at h1
     ·simp at h1;obtain⟨rfl,rfl⟩:=h1;exact⟨by simp only [RV],rfl⟩
     ·cases h1
    ·split at h1
     ·simp at h1;subst h1;exact⟨by simp only [RV],rfl⟩
     ·cases h1
    ·split at h1
     ·exact⟨by simp only [RV],rfl⟩
     ·cases h1
   refine⟨⟨x,xs,rfl,this.1,i1⟩,fun c hc=>?_⟩
   rcases zi.1 hc with rfl | hc
   ·exact this.2
   ·exact i2 c hc
theorem qgM{w:World}{M:Nat->Prop}:(s:Sh) -> {vs r:List Value}->qiO s vs=some r->∃ c,vs=c++r/\RC w M s s.zero c
 | .int k,vs,r,h=>by
  simp only [qiO] at h
  split at h
  ·split at h
   ·rename_i hk;simp at h;subst h;obtain⟨rfl,rfl⟩:=hk;exact⟨[_],rfl,rfl⟩
   ·cases h
  ·cases h
 | .bool,vs,r,h=>by
  simp only [qiO] at h
  split at h
  ·split at h
   ·rename_i hk;simp at h;subst h;subst hk;exact⟨[_],rfl,rfl⟩
   ·cases h
  ·cases h
 | .unit,vs,r,h=>by simp only [qiO,zD] at h;subst h;exact⟨[],rfl,rfl⟩
 | .pair a b,vs,r,h=>by
  simp only [qiO] at h
  split at h
  ·rename_i r1 h1
   obtain⟨c,rfl,hc⟩:=qgM (w:=w) (M:=M) a h1
   obtain⟨d,rfl,hd⟩:=qgM (w:=w) (M:=M) b h
   exact⟨c++d,by simp,c,d,rfl,hc,hd⟩
  ·cases h
 | .sl s,vs,r,h=>by
  simp only [qiO] at h
  split at h
  ·simp only [zD] at h;subst h
   exact⟨[_],rfl,none,0,rfl,Nat.le_refl _,zAE _,fun h=>absurd rfl h⟩
  ·cases h
structure TeIs (P:Program) (t:TypeId) (te:TE) (i:TypeInfo) (z:Value):Prop where
 info:P.info? t=some i
 size:i.size=te.size
 bytes:i.bytes=te.bytes
 zero:i.zero=some z
 zsize:z.cells.size=te.size
 zv:zeroV te.zero z.cells.toList=true
 td:tdOk P t te.d=true
 sh:∀ s,te.sh=some s->s.n=te.size/\∀ w M,RC w M s s.zero z.cells.toList
 key:te.key=true->∀ s,te.sh=some s->qdB P 4 t s=true/\P.eqGuardType P.depth t=false
 ms:te.ms.all (fun m=>quy P t m.1 m.2)=true
theorem TOk.get{P:Program}{T:List (Nat×TE)}(hT:TOk P T){t:Nat}{te:TE}(h:tlook T t=some te):∃ i z,TeIs P t te i z:=by
 have h1:teOk P t te=true:=zm.1 hT _ (qzi h)
 unfold teOk at h1
 split at h1
 ·cases h1
 ·rename_i i hi
  simp only [zA] at h1
  obtain⟨⟨⟨⟨⟨a,b⟩,c⟩,d⟩,hkey⟩,hms⟩:=h1
  have hkey':te.key=true->∀ s,te.sh=some s->qdB P 4 t s=true/\P.eqGuardType P.depth t=false:=fun hk s hs=>by
   rw [hk,hs] at hkey
   simpa using hkey
  split at d
  ·cases d
  ·rename_i z hz
   simp only [zA] at d
   obtain⟨⟨d1,d2⟩,d3⟩:=d
   refine⟨i,z,hi,zB a,zB b,hz,zB d1,d2,c,fun s hs=>?_,hkey',hms⟩
   rw [hs] at d3
   simp only [zA] at d3
   refine⟨zB d3.1,fun w M=>?_⟩
   have d4:=d3.2
   split at d4
   ·rename_i h0
    obtain⟨c,hc,hr⟩:=qgM (w:=w) (M:=M) s h0
    rw [List.append_nil] at hc
    rw [hc];exact hr
   ·cases d4
section
variable {P : Program} {t : TypeId} {te : TE} {i : TypeInfo} {z : Value}
theorem TeIs.und(h:TeIs P t te i z):∃ u,P.underlying t=some u/\(match te.d with
  | .int k=>u=.int k
  | .bool=>u=.bool
  | .slice e=>u=.slice e
  | .array n e=>u=.array n e
  | .struct fs=>∃ gs,u=.struct gs/\gs.toList.map (fun f=>(f.offset,f.type))=fs/\gs.toList.all (fun f=>(P.info? f.type).isSome)=true
  | .map k e ks vs=>u=.map k e/\keyOk P k ks=true/\zOk P e vs=true
  | .nmap k e ks kd=>u=.map k e/\keyOk P k ks=true/\kidOk P e kd=true
  | .str=>u=.string
  | .ptr=>∃ e,u=.pointer e
  | .ifc=>∃ ms,u=.interface ms
  | .other=>(match u with | .struct _=>false | .array _ _=>false | _=>true)=true):=by
 have h1:=h.td
 unfold tdOk at h1
 split at h1
 ·cases h1
 ·rename_i u hu
  refine⟨u,hu,?_⟩
  cases hd:te.d with
  | int k=>rw [hd] at h1;simp only at h1;split at h1 <;> simp_all
  | bool=>rw [hd] at h1;simp only at h1;split at h1 <;> simp_all
  | slice e=>rw [hd] at h1;simp only at h1;split at h1 <;> simp_all
  | array n e=>rw [hd] at h1;simp only at h1;split at h1 <;> simp_all
  | struct fs=>rw [hd] at h1;simp only at h1;split at h1 <;> simp_all
  | map k e ks vs=>
   rw [hd] at h1;simp only at h1;split at h1
   ·simp only [zA] at h1
    obtain⟨⟨a1,a2⟩,a3,a4⟩:=h1
    exact⟨by rw [zB a1,zB a2],a3,a4⟩
   ·cases h1
  | nmap k e ks kd=>
   rw [hd] at h1;simp only at h1;split at h1
   ·simp only [zA] at h1
    obtain⟨⟨a1,a2⟩,a3,a4⟩:=h1
    exact⟨by rw [zB a1,zB a2],a3,a4⟩
   ·cases h1
  | str=>rw [hd] at h1;simp only at h1;split at h1 <;> simp_all
  | ptr=>rw [hd] at h1;simp only at h1;split at h1 <;> simp_all
  | ifc=>rw [hd] at h1;simp only at h1;split at h1 <;> simp_all
  | other=>rw [hd] at h1;exact h1
theorem TeIs.sizeOf(h:TeIs P t te i z)(w:World):(sizeOf t).run P w=.ok te.size w:=by
 simp [Go.sizeOf,typeInfo,h.info,h.size]
theorem TeIs.isAgg(h:TeIs P t te i z)(w:World):(isAgg t).run P w=.ok te.isAgg w:=by
 obtain⟨u,hu,hd⟩:=h.und
 unfold Go.isAgg TE.isAgg
 rw [Sem.run_bind,run_underlying hu w]
 cases he:te.d with
 | int k=>rw [he] at hd;subst hd;rfl
 | bool=>rw [he] at hd;subst hd;rfl
 | slice e=>rw [he] at hd;subst hd;rfl
 | map k e ks vs=>rw [he] at hd;obtain⟨rfl,_⟩:=hd;rfl
 | nmap k e ks kd=>rw [he] at hd;obtain⟨rfl,_⟩:=hd;rfl
 | array n e=>rw [he] at hd;subst hd;rfl
 | struct fs=>rw [he] at hd;obtain⟨gs,rfl,_⟩:=hd;rfl
 | str=>rw [he] at hd;subst hd;rfl
 | ptr=>rw [he] at hd;obtain⟨_,rfl⟩:=hd;rfl
 | ifc=>rw [he] at hd;obtain⟨_,rfl⟩:=hd;rfl
 | other=>rw [he] at hd;cases u <;> simp_all
end
theorem addr_add(b q j:Nat):(⟨b,q,none⟩:Addr).add j=⟨b,q+j,none⟩:=by unfold Addr.add;split <;> simp_all
theorem qhA{P:Program}{t:TypeId}{te:TE}{i:TypeInfo}{z:Value}(h:TeIs P t te i z){w:World}{b q off:Nat}{cs:List Value}(hc:qkD w b q cs)
  (hok:qhO te.isAgg te.size off cs.length=true) :
  (loadVar t ⟨b,q+off,none⟩).run P w=.ok (bif te.isAgg then .agg ((cs.drop off).take te.size).toArray else cs.getD off undef) w:=by
 unfold qhO at hok
 simp only [zA,zx] at hok
 obtain⟨h1,h2⟩:=hok
 have h1:=zH h1
 unfold loadVar
 rw [Sem.run_bind,h.isAgg w,Result.andThen_ok]
 cases ha:te.isAgg with
 | true=>
  simp only [if_true,cond_true,Sem.run_bind,h.sizeOf w,Result.andThen_ok]
  have hl:((cs.drop off).take te.size).length=te.size:=by simp;omega
  have:=run_loadCells_list (P:=P) w ⟨b,q+off,none⟩ ((cs.drop off).take te.size) (fun j v hj=>by
   rw [addr_add]
   rw [zt] at hj
   split at hj
   ·rw [zAB] at hj
    have:=hc _ v hj
    rwa [<- zAF] at this
   ·cases hj)
  rw [hl] at this
  rw [this];rfl
 | false=>
  rw [ha] at h2
  have h2:te.size=1:=by rcases h2 with h2 | h2;cases h2;exact zB h2
  simp only [zAC,if_false,cond_false]
  have hlt:off<cs.length:=by omega
  have:=hc off cs[off] (by simp [hlt])
  rw [run_load,this]
  simp [List.getD,hlt]
theorem qis{w:World}{M:Nat->Prop}{h:List O}{σ:Nat->Loc}{vs:List V}{cs:List Value}(hr:RVs w M h σ vs cs)(h1:∀ c∈cs,c.oneCell'=true){agg:Bool}{size off:Nat}
  (hok:qhO agg size off vs.length=true):RV w M h σ (partV agg size off vs) (bif agg then .agg ((cs.drop off).take size).toArray else cs.getD off undef):=by
 unfold qhO at hok
 simp only [zA,zx] at hok
 obtain⟨hle,h2⟩:=hok
 have hle:=zH hle
 unfold partV
 cases agg with
 | true=>
  simp only [cond_true,RV]
  exact⟨_,rfl,fun c hc=>h1 c (by simp only [List.toList_toArray] at hc;exact zAy (zAU hc)),(hr.drop off).take size⟩
 | false=>
  simp only [cond_false]
  have h2:size=1:=by rcases h2 with h2 | h2;cases h2;exact zB h2
  have hlt:off<vs.length:=by omega
  obtain⟨x,hx,hv⟩:=hr.get (i:=off) (v:=vs[off]) (by simp [hlt])
  simp only [List.getD,hx,zBQ]
  simpa [hlt] using hv
section
variable {w0 : World} {A M0 : Nat -> Prop} {w : World} {h hm : List O} {σ : Nat -> Loc}
theorem qxW{vs:List V}{M:Nat->Prop}{l:Loc}(r:RO w M h σ l (.cells vs)):∃ b cs,l.a=some b/\qay w b 0 cs/\RVs w M h σ vs cs/\(∀ c∈cs,c.oneCell'=true):=by
 obtain⟨b,e,cs,ha,hb,hr,h1⟩:=r
 exact⟨b,cs.toList,ha,.own hb fun j v hj=>by rw [Nat.zero_add,cell_of_row w b j cs e (0,0) hb];simpa using hj,hr,h1⟩
theorem qxi{fz:Bool}{ver:Nat}{e:TypeId}{s:Sh}{xs:List s.den}{M:Nat->Prop}{l:Loc}(r:RO w M h σ l (.row fz ver e s xs)){b:Nat}(ha:l.a=some b) :
  ∃ cs,qay w b 0 cs/\RL w M s xs cs:=by
 cases fz with
 | true=>
  obtain⟨_,r,_⟩:=r
  obtain⟨a,cap,cs,hv,h1,h2⟩:=r.cellsOf
  rcases h2 with rfl | ⟨b',q,rfl,_,_,h2⟩
  ·simp only [RL] at h1;subst h1;exact⟨[],fun j v hj=>by simp at hj,rfl⟩
  ·simp only [rowV,Loc.addr,ha,Option.map_some,Value.slice.injEq,zD,Addr.mk.injEq] at hv
   obtain⟨⟨rfl,rfl,_⟩,_⟩:=hv
   exact⟨cs,h2,h1⟩
 | false=>
  obtain⟨_,cs,h1,h2⟩:=r
  have hv:rowV l xs.length=.slice (some ⟨b,0,none⟩) xs.length l.cap:=by simp [rowV,Loc.addr,ha]
  rw [hv] at h1
  obtain⟨cur,hg⟩:∃ cur,w.heap[b]? = some (.cells cur e (0,0)):=by
   rcases h1.2 with⟨h,-⟩ | ⟨g,cap,cur,h,-,hg,-⟩
   ·cases h
   ·cases h;exact⟨cur,hg⟩
  refine⟨cs,.own hg fun j v hj=>?_,h2⟩
  rw [Nat.zero_add,World.ownsRow.cellAt h1 j (by have:=(zS.1 hj).1;rw [h2.length] at this;exact this)]
  exact hj
theorem OwnK.cells{e:TypeId}{n:Nat}{l:Loc}{m:Nat}{cs:List Value}(h:OwnK w e n l m cs){b:Nat}(ha:l.a=some b):qay w b l.off cs:=by
 obtain⟨_,⟨q,_⟩ | ⟨g,cur,q,hg,_,_,ht⟩⟩:=h
 ·rw [ha] at q;cases q
 ·rw [ha] at q;cases q
  refine .own hg fun j v hj=>?_
  rw [cell_of_row w b _ cur e (0,0) hg]
  rw [<- ht,zt] at hj
  split at hj
  ·rw [zAB] at hj
   simpa using hj
  ·cases hj
theorem OwnK.one_{e:TypeId}{n:Nat}{l:Loc}{m:Nat}{cs:List Value}(h:OwnK w e n l m cs)(hm:0<m):∃ b,l.a=some b:=by
 obtain⟨_,⟨_,q,_⟩ | ⟨g,_,q,_⟩⟩:=h
 ·omega
 ·exact⟨g,q⟩
theorem OwnK.le{e:TypeId}{n:Nat}{l:Loc}{m:Nat}{cs:List Value}(h:OwnK w e n l m cs):m<=l.cp:=by
 obtain⟨_,⟨_,q,_⟩ | ⟨g,_,_,_,q,_⟩⟩:=h
 ·omega
 ·exact q
theorem KLs.length{α:Type}{n:Nat}{R:α->List Value->Option (Nat×V)->List Nat->Prop}:{xs:List α} -> {cs:List Value} -> {hl:Option (Nat×V)} -> {bs:List Nat}->KLs n R xs cs hl bs->cs.length=xs.length*n
 | [],_,_,_,h=>by obtain⟨rfl,_⟩:=h;simp
 | _ :: _,_,_,_,h=>by
  obtain⟨c,r,b1,b2,rfl,rfl,hc,_,h⟩:=h
  have:=KLs.length h
  simp only [zq,List.length_cons,zAM];omega
theorem KLs.rl{M:Nat->Prop}{L:V->Value->Prop}{s:Sh}:{xs:List s.den} -> {cs:List Value} -> {hl:Option (Nat×V)} -> {bs:List Nat}->KLs s.n (KW w M L (.dat s)) xs cs hl bs->RL w M s xs cs/\hl=none/\bs = []
 | [],_,_,_,h=>by obtain⟨rfl,rfl,rfl⟩:=h;exact⟨rfl,rfl,rfl⟩
 | _ :: _,_,hl,_,h=>by
  obtain⟨c,r,b1,b2,rfl,rfl,hc,h1,h⟩:=h
  simp only [KW] at h1
  obtain⟨h1,rfl,h2⟩:=h1
  obtain⟨h3,h4,rfl⟩:=KLs.rl h
  refine⟨⟨c,r,rfl,h2,h3⟩,?_,rfl⟩
  cases hl with
  | none=>rfl
  | some y=>
   simp only [hlo,hhi] at h1 h4
   cases hb:Nat.blt y.1 s.n with
   | true=>rw [hb] at h1;cases h1
   | false=>rw [hb] at h4;cases h4
theorem qEv{M:Nat->Prop}{L:V->Value->Prop}{l:Loc}{e:TypeId}{t:Kt}{hl:Option (Int×V)}{d:List t.sh.den}(r:RK w M L l (.row e) t hl d){b:Nat}(ha:l.a=some b):∃ cs,qay w b l.off cs/\KLs t.n (KW w M L t) d cs (holeR hl) l.ex:=by
 obtain⟨_,cs,h1,h2,_⟩:=r
 exact⟨cs,h1.cells ha,h2⟩
theorem qiF(R:Rep w0 A M0 w h σ)(hs:Sub hm h){a:V}{x:Value}(hv:RV w (mutb M0 h σ) h σ a x){vs:List V}{off:Nat}(hd:qdk hm a=some (vs,off)) :
  ∃ b q cs,x=.pointer (some ⟨b,q+off,none⟩)/\qay w b q cs/\RVs w (mutb M0 h σ) h σ vs cs/\(∀ c∈cs,c.oneCell'=true):=by
 cases a with
 | ptr o off'=>
  simp only [qdk] at hd
  split at hd
  ·rename_i vs' eo
   simp only [zD,zN] at hd
   obtain⟨rfl,rfl⟩:=hd
   simp only [RV] at hv
   obtain⟨b,ha,hx⟩:=hv
   have eh:=hs.get eo (by simp)
   rw [eh] at hx
   simp only [PtrTo] at hx
   subst hx
   have ro:=R.obj o
   rw [eh] at ro
   obtain⟨b',cs,ha',hc,hr,h1⟩:=qxW ro
   rw [ha] at ha';cases ha'
   exact⟨b,0,cs,by simp,hc,hr,h1⟩
  ·cases hd
 | rptr o ver i off'=>
  simp only [qdk] at hd
  split at hd
  ·rename_i fz ver' e s xs eo
   cases hb:Nat.beq ver ver' with
   | false=>simp [hb] at hd
   | true=>
    simp only [hb,cond_true,zD,zN] at hd
    obtain⟨rfl,rfl⟩:=hd
    simp only [RV] at hv
    have eh:=hs.get eo (by simp)
    rw [eh] at hv
    obtain⟨hl,_,hx⟩:=hv
    obtain⟨b,ha,hi,rfl⟩:=hx (zB hb)
    have ro:=R.obj o
    rw [eh] at ro
    obtain⟨cs,hc,hr⟩:=qxi ro ha
    have hget:xs[i]? = some (nth s.zero xs i):=by simp [nth,List.getD,hi]
    obtain⟨c,h1,h2⟩:=hr.get hget
    refine⟨b,i*s.n,c,rfl,fun j v hj=>?_,qbM s h1,h1.one⟩
    have:=hc _ v (h2 j v hj)
    rwa [Nat.zero_add] at this
  ·rename_i ver' e s d eo
   cases hb:(Nat.beq ver ver'&&Nat.blt off' 1000000) with
   | false=>rw [hb] at hd;cases hd
   | true=>
   rw [hb,cond_true] at hd
   rw [zA] at hb
   simp only [zD,zN] at hd
   obtain⟨rfl,rfl⟩:=hd
   simp only [RV] at hv
   have eh:=hs.get eo (by simp)
   rw [eh] at hv
   obtain⟨_,hl,_,hx⟩:=hv
   have hlow:off'<1000000:=zH hb.2
   obtain⟨_,b,ha,hi,rfl⟩:=(hx (zB hb.1)).resolve_left (fun q=>by omega)
   have ro:=R.obj o
   rw [eh] at ro
   obtain⟨cs,hc,hk⟩:=qEv ro ha
   have hr:=hk.rl.1
   have hi:i<d.length:=hi
   have hget:d[i]? = some (nth s.zero d i):=by simp [nth,List.getD,hi]
   obtain⟨c,h1,h2⟩:=hr.get hget
   refine⟨b,(σ o).off+i*s.n,c,rfl,fun j v hj=>?_,qbM s h1,h1.one⟩
   have:=hc _ v (h2 j v hj)
   rwa [<- zAF] at this
  ·cases hd
 | fptr s y=>
  simp only [qdk,zD,zN] at hd
  obtain⟨rfl,rfl⟩:=hd
  simp only [RV] at hv
  obtain⟨b,q,cs,rfl,_,_,hc,hr⟩:=hv
  exact⟨b,q,cs,by simp,hc,qbM s hr,hr.one⟩
 | pptr s y=>
  simp only [qdk,zD,zN] at hd
  obtain⟨rfl,rfl⟩:=hd
  simp only [RV] at hv
  obtain⟨b,q,b',q',cs,rfl,_,_,hc,hb2,hm2,hc2,hr⟩:=hv
  refine⟨b,q,_,by simp,hc,?_,fun c hc=>by rw [zAG] at hc;subst hc;rfl⟩
  simp only [RVs,RV]
  exact⟨_,_,rfl,⟨b',q',cs,rfl,hb2,hm2,hc2,hr⟩,rfl⟩
 | _=>simp [qdk] at hd
end
end Go.Abs
