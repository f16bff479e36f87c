import Derived.Test.YtcjecibocjbdmaaTowW
namespace Go.Proofs.Ytcjecibocjbdmaa
open Go.Abs Go.RowKit
abbrev iL:Sh:=.sl (.int .i64)
theorem castSh_id{s:Sh}(x:s.den):castSh (s:=s) (s':=s) x=some x:=by
 unfold castSh
 split
 ·rfl
 ·rename_i h;exact absurd rfl h
section
variable {w : World} {l : Abs.Loc} {e : TypeId} {s : Sh} {xs : List s.den} {cs : List Value}
theorem own_row{b:Nat}:own [.row false 0 e s xs] (fun _=>l) b↔l.a=some b:=by
 constructor
 ·rintro⟨o,hl,ha⟩
  cases o with
  | zero=>exact ha
  | succ o=>exact hl.elim
 ·exact fun h=>⟨0,rfl,h⟩
theorem mutb_row{b:Nat}:mutb (fun _=>False) [.row false 0 e s xs] (fun _=>l) b↔l.a=some b:=
 ⟨fun h=>h.elim False.elim own_row.1,fun h=>.inr (own_row.2 h)⟩
theorem rep_row(hs:1<=s.n)(ho:w.ownsRow 0 e s.n (rowV l xs.length) xs.length cs)(hr:RL w (fun b=>l.a=some b) s xs cs) :
  Rep w (fun b=>l.a=some b) (fun _=>False) w [.row false 0 e s xs] (fun _=>l) where
 fr:=⟨rfl,TDr.rfl,rfl,Nat.le_refl _,fun _ _ _=>rfl⟩
 m0:=fun b h=>h.elim
 inA:=fun b h=>.inl (own_row.1 h)
 apart:=fun o o' b h1 h2 _ _=>by
  cases o with
  | zero=>
   cases o' with
   | zero=>rfl
   | succ o'=>exact h2.elim
  | succ o=>exact h1.elim
 obj:=fun o=>by
  cases o with
  | zero=>exact⟨hs,cs,ho,RL.keeps (keepsId fun b hb=>mutb_row.1 hb) hr⟩
  | succ o=>trivial
theorem nogl{A:Nat->Prop}:Gl [] w A:=⟨fun p hp=>(by cases hp),fun p hp=>(by cases hp)⟩
theorem sort_rc{f g:Nat}{D:s.den->s.den->Option Int}{ys:List s.den}(E:EntOk Try.prog [] (mkS f e s g D))(hg:Nat.blt g 1000000=true)(hs:1<=s.n)
  (ho:w.ownsRow 0 e s.n (rowV l xs.length) xs.length cs) (hr:RL w (fun b=>l.a=some b) s xs cs) (hd:sortR D xs=some ys) :
  Calls Try.prog f #[rowV l xs.length,.func (.func g) #[] #[]] w fun e' w'=>e'=.returned (.tuple #[])/\Fr w (fun b=>l.a=some b) w'/\ys.length=xs.length /\
   ∃ cs',w'.ownsRow 0 e s.n (rowV l ys.length) ys.length cs'/\RL w' (fun b=>l.a=some b) s ys cs':=by
 have R:=rep_row hs ho hr
 refine (E.wr [.slc 0 0,.clo g []] [.row false 0 e s xs] { α:=List s.den,r:=sortR D xs,v:=fun _=>.tup [],h:=some fun ys h=>h.set 0 (.row false 0 e s ys) } _ ys (by
   simp only [mkS,Nat.beq_refl,cond_true,getO,List.getD_cons_zero,Bool.not_false,Bool.and_self,Bool.true_and,castSh_id (s:=.sl s)]) rfl hd w _ _ w _ nogl R [_,_] ?_).mono ?_
 ·simp only [RVs,RV]
  exact⟨_,_,rfl,⟨false,0,e,s,xs,rfl,Nat.le_refl _,rfl,fun _=>rfl⟩,_,_,rfl,⟨#[],by simp [cloV,tgtF,fstF,capF,hg],rfl⟩,rfl⟩
 ·rintro e' w' ⟨x,σ',rfl,N,hx⟩
  simp only [RV,RVs] at hx
  obtain⟨us,rfl,hus⟩:=hx
  obtain rfl:us = #[]:=by apply Array.ext';exact hus
  have h0:=N.rep.obj 0
  obtain⟨_,_,_,_,_,e1,-,h1⟩:=N.step 0
  cases e1
  obtain⟨h2,-,h3⟩:=h1 rfl
  obtain⟨-,cs',h4,h5⟩:=h0
  rw [h2] at h4
  refine⟨rfl,⟨N.goes.os,N.goes.tape,N.goes.output,N.goes.size,fun b hb hn=>N.goes.block b hb fun h=>hn (own_row.1 h)⟩,h3,cs',h4,RL.keeps (keepsId fun b hb=>.inr ⟨0,rfl,?_⟩) h5⟩
  show (σ' 0).a=some b
  rw [h2];exact hb
end
def InOk(w:World)(B:Nat)(l:Abs.Loc)(c:Value):Prop:=
 ∃ a n cap,c=.slice a n cap/\n<=maxI/\(0<n->∃ b cur e,a=some ⟨b,0,none⟩/\B<=b/\l.a≠some b/\w.heap[b]? = some (.cells cur e (0,0))/\n<=cur.size)
structure FreshL (w:World) (B:Nat) (l:Abs.Loc) (F:List (List Int)) (cs:List Value):Prop where
 own:w.ownsRow 0 48 1 (rowV l F.length) F.length cs
 ge:∀ b,l.a=some b->B<=b
 rl:RL w (fun b=>l.a=some b) iL F cs
 inn:∀ c∈cs,InOk w B l c
theorem FreshL.lt{w:World}{B:Nat}{l:Abs.Loc}{F:List (List Int)}{cs:List Value}(h:FreshL w B l F cs){b:Nat}(hb:l.a=some b):b<w.heap.size:=rowV_block h.own hb
theorem InOk.keep{w w':World}{B:Nat}{l l':Abs.Loc}{c:Value}(h:InOk w B l c)(hk:∀ b,b<w.heap.size->l.a≠some b->w'.heap[b]? = w.heap[b]? /\ l'.a≠some b):InOk w' B l' c:=by
 obtain⟨a,n,cap,rfl,hm,h⟩:=h
 refine⟨a,n,cap,rfl,hm,fun hn=>?_⟩
 obtain⟨b,cur,e,h1,h2,h3,h4,h5⟩:=h hn
 obtain⟨k1,k2⟩:=hk b (zE.1 h4).1 h3
 exact⟨b,cur,e,h1,h2,k2,by rw [k1];exact h4,h5⟩
theorem FreshL.keep{w w':World}{B:Nat}{l:Abs.Loc}{F:List (List Int)}{cs:List Value}(h:FreshL w B l F cs)(hs:w.heap.size<=w'.heap.size)(hk:∀ b,b<w.heap.size->w'.heap[b]? = w.heap[b]?):FreshL w' B l F cs where
 own:=ownsRow_block h.own fun b hb=>hk b (h.lt (rowV_own hb))
 ge:=h.ge
 rl:=RL.keeps ⟨hs,fun b hb _=>hk b hb,fun b _ hm=>hm⟩ h.rl
 inn:=fun c hc=>(h.inn c hc).keep fun b hb hm=>⟨hk b hb,hm⟩
theorem rep_box{w:World}{b:Nat}{e:TypeId}{vs:List V}{c:Array Value}(hb:w.heap[b]? = some (.cells c e (0,0)))(h1:∀ x∈c.toList,x.oneCell'=true)(hv:RVs w (fun x=>x=b) [.cells vs] (fun _=>⟨some b,0,[]⟩) vs c.toList) :
  Rep w (fun x=>x=b) (fun _=>False) w [.cells vs] (fun _=>⟨some b,0,[]⟩) where
 fr:=⟨rfl,TDr.rfl,rfl,Nat.le_refl _,fun _ _ _=>rfl⟩
 m0:=fun b h=>h.elim
 inA:=by
  rintro x ⟨o,hl,ha⟩
  cases o with
  | zero=>cases ha;exact .inl rfl
  | succ o=>exact hl.elim
 apart:=fun o o' b h1 h2 _ _=>by
  cases o with
  | zero=>
   cases o' with
   | zero=>rfl
   | succ o'=>exact h2.elim
  | succ o=>exact h1.elim
 obj:=fun o=>by
  cases o with
  | zero=>
   refine⟨b,e,c,rfl,hb,RVs.keeps (keepsId fun x hx=>?_) (OStep.refl _ _) hv,h1⟩
   rcases hx with hx | ⟨o,hl,ha⟩
   ·exact hx.elim
   ·cases o with
    | zero=>cases ha;rfl
    | succ o=>exact hl.elim
  | succ o=>trivial
theorem rl_int{w w':World}{M M':Nat->Prop}{k:IntKind}:{xs:List Int} -> {cs:List Value}->RL w M (.int k) xs cs->RL w' M' (.int k) xs cs
 | [],_,h=>h
 | _ :: _,_,h=>by
  obtain⟨c,d,h1,h2,h3⟩:=h
  exact⟨c,d,h1,h2,rl_int h3⟩
def LJ(W:World)(Z:List (List Int))(la:Option Addr)(lc k:Nat)(fa:Option Addr)(fl fc:Nat)(w:World):Prop:=
 ∃ (F:List (List Int)) (l:Abs.Loc) (cs:List Value),Go.Abs.Below W.heap.size W w/\Value.slice fa fl fc=rowV l F.length/\FreshL w W.heap.size l F cs/\RC w (fun b=>l.a=some b) (.sl iL) Z [.slice la Z.length lc] /\
  (∀ x∈F,x∈Z)/\F.length<=k/\(0<k->F ≠ [])
theorem own_box{b x:Nat}{vs:List V}(h:own [.cells vs] (fun _=>(⟨some b,0,[]⟩:Abs.Loc)) x):x=b:=by
 obtain⟨o,hl,ha⟩:=h
 cases o with
 | zero=>cases ha;rfl
 | succ o=>exact hl.elim
theorem info_of{t:TypeId}{n k:Nat}(h:(match Try.prog.info? t with | some i=>(match i.zero with | some z=>decide (z.cells.size=i.size/\i.size=n/\i.bytes=k) | none=>false) | none=>false)=true) :
  ∃ (i:TypeInfo) (z:Value),Try.prog.info? t=some i/\i.zero=some z/\z.cells.size=i.size/\i.size=n/\i.bytes=k:=by
 split at h
 ·rename_i i hi
  split at h
  ·rename_i z hz
   exact⟨i,z,hi,hz,zu h⟩
  ·cases h
 ·cases h
theorem fresh_append{w4:World}{B:Nat}{l:Abs.Loc}{F:List (List Int)}{cs:List Value}(hF4:FreshL w4 B l F cs)(hB:B<=w4.heap.size){l2:Abs.Loc}{t:List Int}{cs2:List Value}{M:Nat->Prop}(o4:w4.ownsRow 0 3 1 (rowV l2 t.length) t.length cs2)
  (r4:RL w4 M (.int .i64) t cs2) (h2:∀ x,l2.a=some x->B<=x/\l.a≠some x) {bx:Nat} (hnew:w4.heap[bx]? = some (.cells #[rowV l2 t.length] 48 (0,0))) (hk:(F.length+1)*24<=140737488355328) :
  ∃ l' w5,(Builtin.append_ #[47,47] 47 #[rowV l F.length,.slice (some ⟨bx,0,none⟩) 1 1]).run Try.prog w4=.ok (rowV l' (F.length+1)) w5/\FreshL w5 B l' (F ++ [t]) (cs ++ [rowV l2 t.length])/\Fr w4 (fun b=>l.a=some b) w5 /\
   (∀ x,x<w4.heap.size->l.a≠some x->l'.a≠some x):=by
 obtain⟨ti,tz,hi,hz',hz2,hz3,hz4⟩:=info_of (t:=48) (n:=1) (k:=24) (by kernel_rfl)
 obtain⟨l',w5,hrun,o5,hcase⟩:=append_own (P:=Try.prog) (w:=w4) (ty:=47) (e:=48) (i:=ti) (z:=tz) (by kernel_rfl) hi hz' hz2 (by omega) (rt:=47) (l:=l) (m:=F.length) (cs:=cs) (by rw [hz3];exact hF4.own) (ad:=⟨bx,0,none⟩) (k:=1) (c:=1) (news:=[rowV l2 t.length])
  (by rw [hz3];rfl) (fun j u hj=>by
   match j,hj with
   | 0,hj=>cases hj;simp [World.cell?,Addr.add,hnew]) (fun u hu=>by simp at hu;subst hu;rfl) (by omega) (by rw [hz4];omega) (by unfold maxLen;omega)
 rw [hz3] at o5
 have hla4:∀ x,l.a=some x->x<w4.heap.size:=fun x hx=>hF4.lt hx
 have hkeep:∀ x,x<w4.heap.size->l.a≠some x->w5.heap[x]? = w4.heap[x]? /\ l'.a≠some x:=fun x hx hn=>by
  rcases hcase with⟨rfl,hg,-⟩ | ⟨h1,hg⟩
  ·exact⟨hg.block x hx fun e=>hn e.symm,hn⟩
  ·exact⟨hg.block x hx,fun e=>by rw [h1] at e;cases e;omega⟩
 have f5:Fr w4 (fun b=>l.a=some b) w5:=by
  rcases hcase with⟨-,hg,hd⟩ | ⟨-,hg⟩
  ·exact⟨hg.os,⟨hg.tape,hd⟩,hg.output,hg.size,fun x hx hn=>(hkeep x hx hn).1⟩
  ·exact⟨hg.os,hg.tape,hg.output,hg.size,fun x hx hn=>(hkeep x hx hn).1⟩
 have kp5:Keeps w4 (fun b=>l.a=some b) w5 (fun b=>l'.a=some b):=⟨f5.size,fun x hx hn=>(hkeep x hx hn).1,fun x hx hn=>(hkeep x hx hn).2⟩
 have hl2:∀ x,l2.a=some x->x<w4.heap.size:=fun x hx=>rowV_block o4 hx
 have o5':w5.ownsRow 0 3 1 (rowV l2 t.length) t.length cs2:=ownsRow_block o4 fun x hx=>(hkeep x (hl2 x (rowV_own hx)) (h2 x (rowV_own hx)).2).1
 have rt5:RC w5 (fun b=>l'.a=some b) iL t [rowV l2 t.length]:=rowV_sl (w:=w5) (e:=3) (s:=.int .i64) (l:=l2) (M:=fun b=>l'.a=some b) o5' (rl_int r4) (fun _ h=>h) fun x hx hm=>(hkeep x (hl2 x hx) (h2 x hx).2).2 hm
 have hlen:(F ++ [t]).length=F.length+1:=by simp
 refine⟨l',w5,hrun,⟨by rw [hlen];exact o5,fun x hx=>?_,(RL.keeps kp5 hF4.rl).append ⟨_,_,rfl,rt5,rfl⟩,fun c hc=>?_⟩,f5,fun x hx hn=>(hkeep x hx hn).2⟩
 ·rcases hcase with⟨rfl,-,-⟩ | ⟨h1,-⟩
  ·exact hF4.ge x hx
  ·rw [h1] at hx;cases hx;exact hB
 ·rcases zU.1 hc with hc | hc
  ·exact (hF4.inn c hc).keep hkeep
  ·rw [zAM.1 hc]
   refine⟨_,_,_,rfl,?_,fun hn=>?_⟩
   ·unfold RC at rt5
    obtain⟨_,_,-,g1,g2,-⟩:=rt5
    exact zl g1 g2
   rcases o5'.2 with⟨-,h0⟩ | ⟨g,cp,cur,hv5,-,hg5,hle5,-,hsz5,-⟩
   ·omega
   ·simp only [rowV,Value.slice.injEq,true_and] at hv5
    obtain⟨ha5,hc5⟩:=hv5
    have hga:l2.a=some g:=by
     cases h:l2.a with
     | none=>rw [Abs.Loc.addr,h] at ha5;cases ha5
     | some b=>rw [Abs.Loc.addr,h] at ha5;simp at ha5;rw [ha5]
    exact⟨g,cur,3,ha5,(h2 g hga).1,(hkeep g (hl2 g hga) (h2 g hga).2).2,hg5,by omega⟩
theorem below_fr{B:Nat}{W w w':World}{l:Abs.Loc}(h:Go.Abs.Below B W w)(f:Fr w (fun b=>l.a=some b) w')(hl:∀ b,l.a=some b->B<=b)(hs:B<=w.heap.size):Go.Abs.Below B W w':=
 ⟨f.os.trans h.os,f.tape.trans h.tape,f.output.trans h.output,zl h.size f.size,fun x hx=>by rw [f.block x (by omega) fun e=>by have:=hl x e;omega,h.block x hx]⟩
theorem cont_round{N:Nat}{W:World}{Z:List (List Int)}(hZ:Z.length<=64)(hO:∀ F:List (List Int),(∀ x∈F,x∈Z)->F.length<=64->∀ t∈Z,D_slices_ContainsFunc_LLint_Lint_h N (F,t)=some (F.any (fun u=>undr u t),t))(hCl:∀ t∈Z,D_slices_Clone_Lint_int N (t,())=some t)
  {la:Option Addr} {lc k:Nat} {fa:Option Addr} {fl fc:Nat} {w:World} (hJ:LJ W Z la lc k fa fl fc w) (hk:k<Z.length) :
  ∃ b q ta tn tc,la=some ⟨b,q,none⟩/\w.cell? ⟨b,q+k,none⟩=some (.slice ta tn tc)/\LRound (LJ W Z la lc) ta tn tc k fa fl fc w:=by
 obtain⟨F,l,cs,hB,hfv,hF,hz,hsub,hlk,hne⟩:=hJ
 have hz0:=hz
 unfold RC at hz
 obtain⟨a,cap,e1,h1,h2,h3⟩:=hz
 simp only [zd,Value.slice.injEq,and_true,true_and] at e1
 obtain⟨rfl,rfl⟩:=e1
 obtain⟨b,q,rfl,hb,hm,hrow⟩:=h3 (fun e=>by rw [e] at hk;simp at hk)
 obtain⟨c1,g1,g2⟩:=hrow k Z[k] (zM hk)
 have ht:Z[k]∈Z:=zAN hk
 generalize Z[k]=t at g2 ht
 have g2':=g2
 unfold RC at g2
 obtain⟨ta,tc,rfl,-⟩:=g2
 have hcell:w.cell? ⟨b,q+k,none⟩=some (.slice ta t.length tc):=by
  have:=g1 0 _ rfl
  simpa [Sh.n] using this
 refine⟨b,q,ta,t.length,tc,rfl,hcell,?_⟩
 unfold LRound
 rw [hfv]
 have hbox:(w.alloc (.cells #[.slice ta t.length tc] 48)).heap[w.heap.size]? = some (.cells #[.slice ta t.length tc] 48 (0,0)):=heap_alloc_new _ _
 have bA:Go.Abs.Below w.heap.size w (w.alloc (.cells #[.slice ta t.length tc] 48)):=(Go.Abs.Below.refl _ _).alloc (Nat.le_refl _) _
 have kp:∀ w',Go.Abs.Below w.heap.size w w'->∀ M:Nat->Prop,(∀ x,M x->w.heap.size<=x)->Keeps w (fun b=>l.a=some b) w' M:=fun w' h M hM=>⟨h.size,fun x hx _=>h.block x hx,fun x hx _ hm=>by have:=hM x hm;omega⟩
 have R:=rep_box (vs:=[.sl (.int .i64) t]) hbox (fun x hx=>by simp at hx;subst hx;rfl) ⟨_,_,rfl,RC.keeps (kp _ bA (fun x=>x=w.heap.size) fun x hx=>by omega) g2',rfl⟩
 have hmem:t∈Z:=ht
 refine (sp_slices_ContainsFunc_LLint_Lint_h N _ (fun x=>x=w.heap.size) (fun _=>False) (fun _=>⟨some w.heap.size,0,[]⟩) (F,t) (F.any (fun u=>undr u t),t) [rowV l F.length,.func (.func 58) #[] #[.pointer (some ⟨w.heap.size,0,none⟩)]] (fun p hp=>(by cases hp)) (fun p hp=>(by cases hp)) R ?_ (hO F hsub (by omega) t ht)).mono ?_
 ·show RVs _ _ _ _ [.sl (.sl (.int .i64)) F,.clo 58 [.ptr 0 0]] _
  simp only [RVs]
  refine⟨_,_,rfl,?_,_,_,rfl,?_,rfl⟩
  ·simp only [RV]
   have h5:RC w (fun b=>False) (.sl iL) F [rowV l F.length]:=rowV_sl (M:=fun b=>l.a=some b) hF.own hF.rl (fun x h=>h.elim) fun x _ h=>h
   refine RC.keeps ⟨bA.size,fun x hx _=>bA.block x hx,fun x hx _ hm=>?_⟩ h5
   rcases hm with hm | hm
   ·exact hm
   ·have:=own_box hm;omega
  ·simp only [RV,RVs]
   exact⟨#[.pointer (some ⟨w.heap.size,0,none⟩)],rfl,_,_,rfl,⟨w.heap.size,rfl,rfl⟩,rfl⟩
 rintro e w2 ⟨v,σ',rfl,N2,hv⟩
 have hv:RV w2 (mutb (fun _=>False) [.cells [.sl (.int .i64) t]] σ') [.cells [.sl (.int .i64) t]] σ' (.bool (F.any (fun u=>undr u t))) v:=hv
 simp only [RV] at hv
 subst hv
 have N2:Abs.Next (w.alloc (.cells #[.slice ta t.length tc] 48)) (fun x=>x=w.heap.size) (fun _=>False) (w.alloc (.cells #[.slice ta t.length tc] 48)) [.cells [.sl (.int .i64) t]] (fun _=>⟨some w.heap.size,0,[]⟩) w2 [.cells [.sl (.int .i64) t]] σ':=N2
 have b2:Go.Abs.Below w.heap.size w w2:=by
  refine⟨N2.goes.os.trans bA.os,N2.goes.tape.trans bA.tape,N2.goes.output.trans bA.output,zl bA.size N2.goes.size,fun x hx=>?_⟩
  rw [N2.goes.block x (by have:=bA.size;omega) fun ho=>by have:=own_box ho;omega,bA.block x hx]
 have hW2:Go.Abs.Below W.heap.size W w2:=hB.trans (b2.mono hB.size)
 have hF2:=hF.keep b2.size b2.block
 refine⟨_,rfl,fun hb=>?_,fun hb=>?_⟩
 ·refine⟨F,l,cs,hW2,hfv,hF2,RC.keeps ⟨b2.size,fun x hx _=>b2.block x hx,fun x _ h=>h⟩ hz0,hsub,by omega,fun _ e=>?_⟩
  rw [e] at hb
  simp at hb
 have hs:=N2.step 0
 have hbx:∃ u:Array Value×TypeId,w2.heap[w.heap.size]? = some (.cells u.1 u.2 (0,0))/\RVs w2 (mutb (fun _=>False) [.cells [.sl (.int .i64) t]] σ') [.cells [.sl (.int .i64) t]] σ' [.sl (.int .i64) t] u.1.toList:=by
  obtain⟨b',e',c',k1,k2,k3,-⟩:=N2.rep.obj 0
  have:(σ' 0).a=some w.heap.size:=by
   rcases hs with⟨_,_,h⟩ | ⟨h,_⟩
   ·rw [h]
   ·cases h
  rw [this] at k1
  cases k1
  exact⟨(c',e'),k2,k3⟩
 obtain⟨⟨c',e'⟩,k2,k3⟩:=hbx
 simp only [RVs,RV] at k3
 obtain⟨x',r',hc',hx',hr'⟩:=k3
 subst hr'
 obtain rfl:c' = #[x']:=by apply Array.ext';exact hc'
 have hx2:=hx'
 unfold RC at hx'
 obtain⟨ta',tc',e3,-⟩:=hx'
 obtain rfl:x'=.slice ta' t.length tc':=by simpa using e3
 refine⟨ta',t.length,tc',by simp [World.cell?,k2],?_⟩
 refine (sp_slices_Clone_Lint_int N (fun _=>False) w2 (t,()) t [.slice ta' t.length tc'] (fun x h=>h.elim) (fun p hp=>(by cases hp)) ⟨_,_,rfl,RC.sub (fun x h=>h.elim) hx2,rfl⟩ (hCl t ht)).mono ?_
 rintro e w3 ⟨l2,cs2,rfl,b3,o3,r3,g3⟩
 refine⟨l2.addr,t.length,l2.cap,rfl,?_⟩
 have b4:Go.Abs.Below w3.heap.size w3 (w3.alloc (.cells #[.slice l2.addr t.length l2.cap] 48)):=(Go.Abs.Below.refl _ _).alloc (Nat.le_refl _) _
 have hnew:(w3.alloc (.cells #[.slice l2.addr t.length l2.cap] 48)).heap[w3.heap.size]? = some (.cells #[.slice l2.addr t.length l2.cap] 48 (0,0)):=heap_alloc_new _ _
 have hsz4:(w3.alloc (.cells #[.slice l2.addr t.length l2.cap] 48)).heap.size=w3.heap.size+1:=World.size_alloc _ _
 revert b4 hnew hsz4
 generalize w3.alloc (.cells #[.slice l2.addr t.length l2.cap] 48)=w4
 intro b4 hnew hsz4
 have s2:=b2.size
 have s3:=b3.size
 have s4:=b4.size
 have b24:Go.Abs.Below w.heap.size w w4:=(b2.trans (b3.mono s2)).trans (b4.mono (by omega))
 have hF4:=hF.keep b24.size b24.block
 have o4:w4.ownsRow 0 3 1 (rowV l2 t.length) t.length cs2:=ownsRow_block o3 fun x hx=>b4.block x (rowV_block o3 (rowV_own hx))
 have hFk:F.length<=64:=by omega
 have hla4:∀ x,l.a=some x->x<w.heap.size:=fun x hx=>hF.lt hx
 have hW4:Go.Abs.Below W.heap.size W w4:=hB.trans (b24.mono hB.size)
 have hBs:=hB.size
 obtain⟨l',w5,hrun,hF5,f5,hn5⟩:=fresh_append hF4 (by omega) o4 (M:=fun _=>False) (rl_int r3) (fun x hx=>⟨by have:=g3 x hx;omega,fun e=>by have:=g3 x hx;have:=hla4 x e;omega⟩) hnew (by omega)
 have hfl:fl=F.length:=by simp only [rowV,Value.slice.injEq] at hfv;exact hfv.2.1
 have hlen:(F ++ [t]).length=F.length+1:=by simp
 refine⟨l'.addr,l'.cap,w5,by rw [hfl];exact hrun,F ++ [t],l',_,below_fr hW4 f5 hF.ge (by omega),by rw [hlen,hfl];rfl,hF5,RC.keeps ⟨by have:=f5.size;omega,fun x hx hn=>by rw [f5.block x (by omega) hn,b24.block x hx],fun x hx hn=>hn5 x (by omega) hn⟩ hz0,fun x hx=>?_,by omega,fun _ e=>by simp at e⟩
 rcases zU.1 hx with hx | hx
 ·exact hsub x hx
 ·rw [zAM.1 hx];exact hmem
end Go.Proofs.Ytcjecibocjbdmaa
