import Derived.Test.YtcjecibocjbdmaaAbsEnt
namespace Go.Abs
structure IEnt where
 g:Nat
 run:List V->List O->Option ItPkg
def findI:List IEnt->Nat->List V->List O->Option ItPkg
 | [],_,_,_=>none
 | en :: r,g,caps,h=>bif Nat.beq en.g g then en.run caps h else findI r g caps h
structure IEntOk (P:Program) (gs:List (Nat×List Value)) (en:IEnt):Prop where
 fn : ∀ caps h p, en.run caps h = some p → ∃ f c, P.funcs[tgtF en.g]? = some f ∧ (f.name == "runtime.NumGoroutine") = false ∧ f.body = some c
 it:∀ caps h p,en.run caps h=some p->p.ok=true->∀ w0 A M0 w σ,Gl gs w0 A->Rep w0 A M0 w h σ->∀ vs,RVs w (mutb M0 h σ) h σ caps vs->∀ r n,
  IterAt2 (WF r) n P en.g vs.toArray p.xs p.v (own h σ) (mutb M0 h σ) w
theorem findI_ok{es:List IEnt}{g:Nat}{caps:List V}{h:List O}{p:ItPkg}(hf:findI es g caps h=some p):∃ en∈es,en.g=g/\en.run caps h=some p:=by
 induction es with
 | nil=>cases hf
 | cons en r ih=>
  simp only [findI] at hf
  cases hb:Nat.beq en.g g with
  | true=>rw [hb] at hf;exact⟨en,by simp,zA hb,hf⟩
  | false=>
   rw [hb] at hf
   obtain⟨en',h1,h2⟩:=ih hf
   exact⟨en',by simp [h1],h2⟩
theorem iOk_of{P:Program}{gs:List (Nat×List Value)}{C:Ctx}{es:List IEnt}(hgs:C.gs=gs)(hG:C.I=findI es)(he:∀ en∈es,IEntOk P gs en):IOk P C where
 fn:=fun g caps h p hp=>by rw [hG] at hp;obtain⟨en,h1,rfl,h3⟩:=findI_ok hp;exact (he en h1).fn caps h p h3
 it:=fun g caps h p hp=>by rw [hgs];rw [hG] at hp;obtain⟨en,h1,rfl,h3⟩:=findI_ok hp;exact (he en h1).it caps h p h3
theorem IterAt.mono{F:Fence}{n:Nat}{P:Program}{g:Nat}{lb:Array Value}{xs:List (Array Value)}{Kp Kp':World->World->Prop}{w:World}(h:IterAt F n P g lb xs Kp w)(hk:∀ X Y,Kp' X Y->Kp X Y):IterAt F n P g lb xs Kp' w:=
 fun l J Jx W hb h1 h2 h3 h4=>h l J Jx W hb h1 h2 (fun i args W1 hx hJ=>by
  obtain⟨o,tmps,c,w2,hr,hq⟩:=h3 i args W1 hx hJ
  refine⟨o,tmps,c,w2,hr,?_⟩
  refine hq.mono ?_
  rintro e W' (⟨h5,h6,h7⟩ | h5)
  ·exact .inl ⟨h5,h6,hk _ _ h7⟩
  ·exact .inr h5) h4
theorem svs_rvs{w:World}{M:Nat->Prop}{h:List O}{σ:Nat->Loc}:(vs:List V)->vs.all isSv=true->RVs w M h σ vs (vs.map svOf)
 | [],_=>by simp only [List.map_nil,RVs]
 | v :: vs,hv=>by
  simp only [List.all_cons,zB] at hv
  simp only [List.map_cons,RVs]
  exact⟨_,_,rfl,sv_rv hv.1,svs_rvs vs hv.2⟩
theorem IterAtO.to{F:Fence}{n:Nat}{P:Program}{g:Nat}{lb:Array Value}{α:Type}{ys:List α}{vv:α->List V}{M M':Nat->Prop}{w:World}(hsv:∀ y,(vv y).all isSv=true)
  (h:IterAtO F n P g lb (ys.map fun y=>((vv y).map svOf).toArray) M w):IterAt2 F n P g lb ys vv M M' w:=by
 intro l J Jx W h1 h2 h3 h4 h5 h6 h7 h8
 have:=h l J Jx W h1 h2 h3 h4 h5 h6 h7 (fun B i args X hx hJ=>by
  rw [zAh] at hx
  obtain⟨y,hy,rfl⟩:=zAk.1 hx
  exact h8 B i y _ X X hy hJ (Below.refl _ _) (svs_rvs _ (hsv y)))
 rwa [zAO] at this
end Go.Abs
namespace Go.Abs
open Go.RowKit
theorem RC.encL{w:World}{M:Nat->Prop}{h:List O}{σ:Nat->Loc}:(s:Sh) -> {x:s.den} -> {cs:List Value}->RC w M s x cs->RVs w M h σ (encL s x) cs
 | .int _,_,_,hc=>by simp only [RC] at hc;subst hc;simp only [Abs.encL,RVs,RV];exact⟨_,_,rfl,rfl,rfl⟩
 | .bool,_,_,hc=>by simp only [RC] at hc;subst hc;simp only [Abs.encL,RVs,RV];exact⟨_,_,rfl,rfl,rfl⟩
 | .unit,_,_,hc=>by simp only [RC] at hc;subst hc;simp only [Abs.encL,RVs]
 | .sl s,x,_,hc=>by
  have hc':=hc
  simp only [RC] at hc
  obtain⟨a,cap,rfl,_⟩:=hc
  simp only [Abs.encL,RVs,RV]
  exact⟨_,_,rfl,hc',rfl⟩
 | .pair a b,x,_,hc=>by
  simp only [RC] at hc
  obtain⟨c,d,rfl,h1,h2⟩:=hc
  simp only [Abs.encL]
  exact (RC.encL a h1).append (RC.encL b h2)
section
variable {P : Program} {w w' : World} {M : Nat -> Prop} {h : List O} {σ : Nat -> Loc}
end
end Go.Abs
