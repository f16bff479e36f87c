import Derived.Test.YtnhjpicdijeagaaDoorAbsFrag
import Derived.ChangeArms
import Derived.Deep.Slices
import Derived.ProofKit
import Derived.RowKit
import Derived.Test.YtnhjpicdijeagaaDoorAbsLp
namespace Go.Abs
open Go.RowKit Go.ChangeShapes Go.WideShapes Go.Deep
def wfS:(s:Sh)->s.den->Prop
 | .int k,n=>k.min<=n/\n<=k.max
 | .bool,_=>True
 | .unit,_=>True
 | .pair a b,x=>wfS a x.1/\wfS b x.2
 | .sl s,xs=>xs.length<=maxI/\∀ x∈xs,wfS s x
mutual
def tyOk(P:Program):Nat->Sh->TypeId->Bool
 | 0,_,_=>false
 | n+1,s,t=>
  match P.underlying t with
  | some (.int k)=>decide (s=.int k)
  | some .bool=>decide (s=.bool)
  | some (.slice e)=>(match s with | .sl s'=>tyOk P n s' e&&Nat.beq (P.cellsOf e) s'.n&&Nat.ble 1 s'.n | _=>false)
  | some (.struct fs)=>Nat.beq (P.cellsOf t) s.n&&fsOk P n s fs.toList 0
  | _=>false
def fsOk(P:Program):Nat->Sh->List Field->Nat->Bool
 | 0,_,_,_=>false
 | n+1,s,fs,off=>
  match fs with
  | []=>decide (s=.unit)
  | f :: r=>
   Nat.beq f.offset off &&
   match r with
   | []=>Nat.beq (P.cellsOf f.type) s.n&&tyOk P n s f.type
   | _ :: _=>(match s with | .pair a b=>Nat.beq (P.cellsOf f.type) a.n&&tyOk P n a f.type&&fsOk P n b r (off+a.n) | _=>false)
end
section
variable {H : Type} {enc : TypeId × Value -> H} {P : Program} {w : World} {spare : Nat -> Bool} {held : Bool}
theorem qEk{k:IntKind}{n:Int}(h:(Lit.int k n).wf=true):wfS (.int k) n:=by
 simp only [Lit.wf,zA,zQ] at h
 exact h
theorem cell_spot{a:Addr}{v:Value}(h:w.cell? a=some v):a.spot=none:=by
 unfold World.cell? at h
 split at h
 ·split at h
  ·cases h
  ·rename_i hsp;simpa using hsp
 ·cases h
theorem qEg{a:Addr}(hs:a.spot=none)(i:Nat):a.add i=⟨a.block,a.off+i,none⟩:=by
 unfold Addr.add
 split
 ·rename_i h0;subst h0;cases a;simp_all
 ·rfl
theorem qsa{a:Addr}(hs:a.spot=none){i n:Nat}{cs:List Value}(h:w.cells? 0 (a.add i) n=some cs)(hn:∀ j,j<n->w.frozen? ⟨a.block,a.off+i+j,none⟩=false):qay w a.block (a.off+i) cs:=fun j v hj=>by
 obtain⟨_,hl,hc⟩:=World.cells?_some h
 have hlt:j<n:=by rw [<- hl];exact (zS.1 hj).1
 have:=hc j hlt
 rw [add_add,qEg hs,hj,<- zAF] at this
 exact⟨this,hn j hlt⟩
theorem qBL{a:Addr}{k:Nat}{ps:List MemPlace}(h:w.noneFrozen (MemPlace.row a k++ps)){j:Nat}(hj:j<k):w.frozen? ⟨a.block,a.off+j,none⟩=false:=
 h _ _ (zo _ (zr.2 ⟨j,zg.2 hj,rfl⟩))
theorem qyo{m:Nat}{Pl:Nat->List MemPlace}{rs:List MemPlace}(h:w.noneFrozen (rs++(List.range m).flatMap Pl)){i:Nat}(hi:i<m):w.noneFrozen (Pl i):=fun b off hm=>
 h b off (zf _ (List.mem_flatMap.2 ⟨i,zg.2 hi,hm⟩))
mutual
theorem qpn:(n:Nat) -> {s:Sh} -> {t:TypeId} -> {fuel:Nat} -> {cs:List Value} -> {y:DataW H×List MemPlace}->tyOk P n s t=true->DataW.trod enc P w 0 spare held fuel t cs=some y->w.noneFrozen y.2 ->
  ∃ x:s.den,RC w (fun _=>False) s x cs/\wfS s x
 | 0,_,_,_,_,_,ht,_,_=>by simp [tyOk] at ht
 | n+1,s,t,fuel,cs,y,ht,hf,hnf=>by
  simp only [tyOk] at ht
  split at ht
  ·rename_i k hu
   have:=zV ht
   subst this
   obtain⟨m,rfl,_,hw⟩:=DataW.trod_int hu hf
   exact⟨m,by simp only [RC],qEk hw⟩
  ·rename_i hu
   have:=zV ht
   subst this
   obtain⟨b,rfl,_⟩:=DataW.trod_bool hu hf
   exact⟨b,by simp only [RC],trivial⟩
  ·rename_i e hu
   split at ht
   ·rename_i s'
    rw [zA,zA] at ht
    obtain⟨⟨h1,h2⟩,h3⟩:=ht
    have h2:=zB h2
    have h3:=zH h3
    rcases open_slice hu hf with⟨rfl,_⟩ | ⟨a,len,cap,m,n',D,Pl,rfl,hb,hl,hm,hmm,hy,hx⟩
    ·exact⟨[],by simp only [RC];exact⟨none,0,rfl,Nat.le_refl _,zAE _,fun h=>absurd rfl h⟩,⟨zAE _,fun x hx=>by cases hx⟩⟩
    ·have hlm:len<=m:=by subst hmm;split <;> omega
     rw [hy] at hnf
     have hnf:w.noneFrozen (MemPlace.row a (m*P.cellsOf e)++(List.range m).flatMap Pl):=hnf
     have hfr:∀ i,i<len->∀ j,j<s'.n->w.frozen? ⟨a.block,a.off+i*s'.n+j,none⟩=false:=fun i hi j hj=>by
      rw [zAF]
      refine qBL hnf ?_
      rw [h2]
      have h6:(i+1)*s'.n<=m*s'.n:=zy _ (by omega)
      rw [zBd,Nat.one_mul] at h6
      omega
     have key:∀ i,i<len->∃ x:s'.den,∃ cs',w.cells? 0 (a.add (i*s'.n)) s'.n=some cs'/\RC w (fun _=>False) s' x cs'/\wfS s' x:=fun i hi=>by
      obtain⟨cs',h4,h5⟩:=hx i (by omega)
      obtain⟨x,h6,h7⟩:=qpn n h1 h5 (qyo hnf (by omega))
      rw [h2] at h4
      exact⟨x,cs',h4,h6,h7⟩
     have:Inhabited s'.den:=⟨s'.zero⟩
     obtain⟨f,hf⟩:=choose_lt key
     refine⟨(List.range len).map f,?_,⟨by simp only [zAS,zBN];unfold maxLen at hm;unfold maxI;omega,fun x hx=>?_⟩⟩
     ·simp only [RC]
      refine⟨some a,cap,by simp,by simpa using hl,by unfold maxLen at hm;unfold maxI;omega,fun hne=>?_⟩
      have h0:0<len:=by
       cases len with
       | zero=>simp at hne
       | succ _=>omega
      have hs:a.spot=none:=by
       obtain⟨cs',h4,_,_⟩:=hf 0 h0
       obtain⟨_,hl4,hc⟩:=World.cells?_some h4
       have:=hc 0 (by omega)
       rw [zW (by omega)] at this
       have h5:=cell_spot this
       simpa [Addr.add] using h5
      refine⟨a.block,a.off,by cases a;simp_all,?_,fun h=>h,fun i x hi=>?_⟩
      ·obtain⟨cs',h4,_,_⟩:=hf 0 h0
       have hc:=qsa hs h4 (hfr 0 h0)
       obtain⟨_,hl4,_⟩:=World.cells?_some h4
       obtain⟨o,ho,_⟩:=cells_of_cell (hc 0 _ (zW (by omega))).1
       exact (zI.1 ho).1
      ·rw [zAb] at hi
       obtain⟨j,hj,rfl⟩:=zw.1 hi
       obtain⟨hlt,rfl⟩:=zS.1 hj
       simp at hlt
       simp only [zCB]
       obtain⟨cs',h4,h6,h7⟩:=hf i hlt
       exact⟨cs',qsa hs h4 (hfr i hlt),h6⟩
     ·obtain⟨j,hj,rfl⟩:=zr.1 hx
      obtain⟨_,_,_,h⟩:=hf j (zg.1 hj)
      exact h
   ·cases ht
  ·rename_i fs hu
   rw [zA] at ht
   obtain⟨h1,h2⟩:=ht
   have h1:=zB h1
   obtain⟨xs,m,_,hy,hl,hsz,hfs⟩:=DataW.trod_struct hu hf
   refine qzF n (cs:=cs) (off:=0) h2 (by simpa [h1] using hl) fun i f hi=>?_
   have:=hfs i f (by simpa using hi)
   have hlt:i<xs.length:=by
    rw [hsz]
    have:=(zS.1 hi).1
    simpa using this
   rw [zW hlt] at this
   refine⟨m,_,by simpa using this,fun b off hm=>hnf b off ?_⟩
   rw [hy]
   exact List.mem_flatMap.2 ⟨_,zAu hlt,hm⟩
  ·cases ht
theorem qzF:(n:Nat) -> {s:Sh} -> {fs:List Field} -> {off:Nat} -> {cs:List Value}->fsOk P n s fs off=true->cs.length=s.n ->
  (∀ (i:Nat) (f:Field),fs[i]? = some f->∃ m y,DataW.trod enc P w 0 spare held m f.type ((cs.drop (f.offset - off)).take (P.cellsOf f.type))=some y/\w.noneFrozen y.2) ->
  ∃ x:s.den,RC w (fun _=>False) s x cs/\wfS s x
 | 0,_,_,_,_,ht,_,_=>by simp [fsOk] at ht
 | n+1,s,fs,off,cs,ht,hl,hy=>by
  simp only [fsOk] at ht
  split at ht
  ·have:=zV ht
   subst this
   exact⟨(),by simp only [RC];exact zBL.1 (by simpa [Sh.n] using hl),trivial⟩
  ·rename_i f r
   rw [zA] at ht
   obtain⟨h0,ht⟩:=ht
   have h0:=zB h0
   split at ht
   ·rw [zA] at ht
    obtain⟨h1,h2⟩:=ht
    have h1:=zB h1
    obtain⟨m,y,hm,hnf⟩:=hy 0 f rfl
    rw [h0,Nat.sub_self,List.drop_zero,h1,<- hl,zAR] at hm
    exact qpn n h2 hm hnf
   ·rename_i g r'
    split at ht
    ·rename_i a b
     rw [zA,zA] at ht
     obtain⟨⟨h1,h2⟩,h3⟩:=ht
     have h1:=zB h1
     simp only [Sh.n] at hl
     obtain⟨m,y,hm,hnf⟩:=hy 0 f rfl
     rw [h0,Nat.sub_self,List.drop_zero,h1] at hm
     obtain⟨x,hx,hwx⟩:=qpn n h2 hm hnf
     have hoff:∀ (i:Nat) (f:Field),(g :: r')[i]? = some f->off+a.n<=f.offset:=qxJ n h3
     obtain⟨z,hz,hwz⟩:=qzF n (cs:=cs.drop a.n) (off:=off+a.n) h3 (by simp;omega) (fun i f' hi=>by
      obtain⟨m,y,hm,hnf⟩:=hy (i+1) f' (by simpa using hi)
      refine⟨m,y,?_,hnf⟩
      rw [zBs]
      have:=hoff i f' hi
      rw [show a.n+(f'.offset - (off+a.n))=f'.offset - off by omega]
      exact hm)
     refine⟨(x,z),?_,hwx,hwz⟩
     simp only [RC]
     exact⟨cs.take a.n,cs.drop a.n,(zAe _ _).symm,hx,hz⟩
    ·cases ht
theorem qxJ:(n:Nat) -> {s:Sh} -> {fs:List Field} -> {off:Nat}->fsOk P n s fs off=true->∀ (i:Nat) (f:Field),fs[i]? = some f->off<=f.offset
 | 0,_,_,_,ht=>by simp [fsOk] at ht
 | n+1,s,fs,off,ht=>by
  intro i f hi
  simp only [fsOk] at ht
  split at ht
  ·simp at hi
  ·rename_i g r
   rw [zA] at ht
   obtain⟨h0,ht⟩:=ht
   have h0:=zB h0
   cases i with
   | zero=>simp at hi;subst hi;omega
   | succ i=>
    simp only [List.getElem?_cons_succ] at hi
    split at ht
    ·simp at hi
    ·rename_i g' r'
     split at ht
     ·rename_i a b
      rw [zA,zA] at ht
      have:=qxJ n ht.2 i f hi
      omega
     ·cases ht
end
def isStr(P:Program)(t:TypeId):Bool:=match P.underlying t with | some (.struct _)=>true | _=>false
def kdOk(P:Program)(k:Kd)(t:TypeId):Bool:=
 match k with
 | .dat s=>tyOk P 20 s t&&(s.isAgg==isStr P t)
 | .agg s=>tyOk P 20 s t&&isStr P t
 | _=>false
def wfK:(k:Kd)->k.den->Prop
 | .dat s,x=>wfS s x
 | .agg s,x=>wfS s x
 | .ptr _,_=>True
 | .clo _ _,_=>True
 | .bnd _ _,_=>True
theorem qfn{r:Reach}{b0:Nat}{t:TypeId}{v:Value}{d:DataW H}{ps:List MemPlace}{k:Kd}(hk:kdOk P k t=true)(hval:Value.okWide P w r b0 t v)(hd:DataW.Trod enc P w 0 spare held t v d ps)(hnf:w.noneFrozen ps) :
  ∃ x:k.den,RV w (fun _=>False) [] σ0 (k.val x) v/\wfK k x:=by
 obtain⟨fuel,hf⟩:=hd
 have agg:∀ {s:Sh},tyOk P 20 s t=true->isStr P t=true->∃ x:s.den,RV w (fun _=>False) [] σ0 (.agg (encL s x)) v/\wfS s x:=fun {s} h1 h2=>by
  unfold isStr at h2
  split at h2
  ·rename_i fs hu
   simp only [Value.okWide,hu] at hval
   obtain⟨cs,rfl,_,_⟩:=hval
   obtain⟨x,hx,hw⟩:=qpn 20 h1 hf hnf
   simp only [Value.cells] at hx
   refine⟨x,?_,hw⟩
   simp only [RV]
   exact⟨cs,rfl,RC.one1 s hx,RC.encL s hx⟩
  ·cases h2
 cases k with
 | dat s=>
  simp only [kdOk,zA] at hk
  obtain⟨h1,h2⟩:=hk
  cases hs:s.isAgg with
  | true=>
   rw [hs] at h2
   obtain⟨x,hx,hw⟩:=agg h1 (by simpa using h2)
   refine⟨x,?_,hw⟩
   simp only [Kd.val,qoI hs];exact hx
  | false=>
   rw [hs] at h2
   have h2:isStr P t=false:=by simpa using h2
   have hv:v.cells.toList = [v]:=by
    unfold isStr at h2
    simp only [tyOk] at h1
    split at h1
    ·rename_i hu;obtain⟨_,rfl⟩:=okWide_int hu hval;rfl
    ·rename_i hu;obtain⟨_,rfl⟩:=okWide_bool hu hval;rfl
    ·rename_i hu;obtain⟨_,_,_,rfl⟩:=okWide_slice hu hval;rfl
    ·rename_i hu;rw [hu] at h2;cases h2
    ·cases h1
   rw [hv] at hf
   obtain⟨x,hx,hw⟩:=qpn 20 h1 hf hnf
   exact⟨x,qAK hs hx,hw⟩
 | agg s=>
  simp only [kdOk,zA] at hk
  obtain⟨x,hx,hw⟩:=agg hk.1 hk.2
  exact⟨x,hx,hw⟩
 | ptr s=>cases hk
 | clo g cs=>cases hk
 | bnd g s=>cases hk
end
end Go.Abs
namespace Go.Abs
end Go.Abs
