import Derived.Test.YtgnnhemoocfclaaDoorAbsFrag
namespace Go.Abs
section
variable {P : Program} {w w' : World} {M : Nat -> Prop} {h : List O} {σ : Nat -> Loc}
end
end Go.Abs
namespace Go.Abs
section
variable {ρ : Type} {P : Program} {C : Ctx}
end
theorem RC.far{w w':World}{M M':Nat->Prop}(k:∀ b,b<w.heap.size->¬ M b->b<w'.heap.size/\¬ M' b/\w'.heap[b]? = w.heap[b]?):{s:Sh} -> {x:s.den} -> {cs:List Value}->RC w M s x cs->RC w' M' s x cs
 | .int _,_,_,h=>by simp only [RC] at h ⊢;exact h
 | .bool,_,_,h=>by simp only [RC] at h ⊢;exact h
 | .unit,_,_,h=>by simp only [RC] at h ⊢;exact h
 | .pair _ _,_,_,h=>by
  simp only [RC] at h ⊢
  obtain⟨c,d,rfl,h1,h2⟩:=h
  exact⟨c,d,rfl,RC.far k h1,RC.far k h2⟩
 | .sl s,xs,_,h=>by
  simp only [RC] at h ⊢
  obtain⟨a,cap,rfl,hl,hc,h⟩:=h
  refine⟨a,cap,rfl,hl,hc,fun hne=>?_⟩
  obtain⟨b,q,ha,hb,hm,hr⟩:=h hne
  obtain⟨k1,k2,k3⟩:=k b hb hm
  refine⟨b,q,ha,k1,k2,fun i x hx=>?_⟩
  obtain⟨cs,hcs,hR⟩:=hr i x hx
  exact⟨cs,fun j v hj=>(World.cell?_of_block (w:=w) k3).trans (hcs j v hj),RC.far k hR⟩
def qyP:V->Bool
 | .int _ _=>true
 | .sl _ _=>true
 | .fptr _ _=>true
 | .pptr _ _=>true
 | .yld _=>true
 | .bad=>true
 | _=>false
theorem RV.far{w w':World}{M M':Nat->Prop}{h h':List O}{σ σ':Nat->Loc}(k:∀ b,b<w.heap.size->¬ M b->b<w'.heap.size/\¬ M' b/\w'.heap[b]? = w.heap[b]?){v:V}(hp:qyP v=true){x:Value}(hv:RV w M h σ v x):RV w' M' h' σ' v x:=by
 cases v with
 | bad=>simp only [RV]
 | int _ _=>simp only [RV] at hv ⊢;exact hv
 | sl _ _=>simp only [RV] at hv ⊢;exact RC.far k hv
 | yld _=>simp only [RV] at hv ⊢;exact hv
 | fptr _ _=>
  simp only [RV] at hv ⊢
  obtain⟨b,q,cs,rfl,hb,hm,hc,hr⟩:=hv
  obtain⟨k1,k2,k3⟩:=k b hb hm
  exact⟨b,q,cs,rfl,k1,k2,fun j v hj=>(World.cell?_of_block (w:=w) k3).trans (hc j v hj),RC.far k hr⟩
 | pptr _ _=>
  simp only [RV] at hv ⊢
  obtain⟨b,q,b',q',cs,rfl,hb,hm,hc,hb2,hm2,hc2,hr⟩:=hv
  obtain⟨k1,k2,k3⟩:=k b hb hm
  obtain⟨k4,k5,k6⟩:=k b' hb2 hm2
  exact⟨b,q,b',q',cs,rfl,k1,k2,fun j v hj=>(World.cell?_of_block (w:=w) k3).trans (hc j v hj),k4,k5,fun j v hj=>(World.cell?_of_block (w:=w) k6).trans (hc2 j v hj),RC.far k hr⟩
 | _=>simp [qyP] at hp
def mkNm(f:Nat)(s:Sh):Ent:=
 { f:=f,run:=fun args _=>match args with
  | [.nl .map]=>some { α:=Unit,r:=some (),v:=fun _=>.sl s [],h:=none }
  | _=>none }
theorem entNm{P:Program}{gs:List (Nat×List Value)}{f:Nat}{s:Sh}(hb:qdm P f)(hS:∀ w,GW gs w->Calls P f #[.map none] w fun e w'=>e=.returned (.slice none 0 0)/\Below w.heap.size w w'):EntOk P gs (mkNm f s) where
 fn:=fun _ _ _ _=>hb
 rd:=fun args h hm p y hsub hp hh hr w0 A M0 w σ hgl R vs hv=>by
  simp only [mkNm] at hp
  split at hp
  ·cases hp
   simp only [RVs,RV] at hv
   obtain⟨v,_,rfl,rfl,rfl⟩:=hv
   refine (hS w (hgl.now R)).mono ?_
   rintro e w' ⟨rfl,hB⟩
   refine⟨_,rfl,hB,?_⟩
   simp only [RV,RC]
   exact⟨none,0,rfl,Nat.le_refl _,zy _,fun h=>absurd rfl h⟩
  ·cases hp
 wr:=fun args h p u y hp hu=>by
  simp only [mkNm] at hp
  split at hp
  ·cases hp;cases hu
  ·cases hp
end Go.Abs
