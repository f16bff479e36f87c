import Derived.Test.YtcjecibocjbdmaaWirX
import Derived.Tactics
import Derived.Tactics2
import Derived.Defers
import Derived.Recover
import Derived.Laws.Pointers
import Derived.TacticsInMore
import Derived.RegionIn
import Derived.LoopNIn
import Derived.RecoverIn
namespace Go.Proofs.Ytcjecibocjbdmaa
open Go.Abs
theorem catch_idle(p q:Addr)(w:World) :
  CallsDIn Fence.wide 0 Try.prog 68 #[.pointer (some p),.pointer (some q)] .returning w fun e u' w'=>e=.returned (.tuple #[])/\u'=.returning/\w'=w:=by
 refine callsDIn_of_wpSIn Try.func68 rfl trivial fun c₀ cs hu=>?_
 apply wpSIn_seq
 apply wpSIn_region
 simp [wpOpsSIn,go_sem,recoverD,hu,Try.ntmps68,Exit.thenS]
 apply wpSIn_seq
 apply wpSIn_region
 simp [wpOpsSIn,go_sem,recoverD,hu,Try.ntmps68,Exit.thenS]
 refine wpSIn_cond (t:=false) (by simp [Act.eval,Array.replicate]) ?_
 simp only [zo,if_false]
 refine wpSIn_of_wpIn rfl (wpIn_skip ?_)
 cases c₀
 simp_all [bodyPostS,results,Try.results68]
theorem hta(w:World):(Instr.typeAssert (panV 129) 20 129 true).run Try.prog w=.ok (.tuple #[.agg #[],.bool true]) w:=by
 have hu:Try.prog.underlying 129=some (.struct #[]):=by kernel_rfl
 unfold Instr.typeAssert panV
 simp only [Sem.run_bind,run_underlying hu,Result.andThen_ok,if_true,Sem.run_pure]
theorem catch_some(p q:Addr)(w:World)(x y:Value)(h1:(w.alloc (Obj.cells #[] 129)).cell? p=some x)(h2:(w.alloc (Obj.cells #[] 129)).frozen? p=false)(h3:((w.alloc (Obj.cells #[] 129)).setCell p (.slice none 0 0)).cell? q=some y)(h4:((w.alloc (Obj.cells #[] 129)).setCell p (.slice none 0 0)).frozen? q=false) :
  CallsDIn Fence.wide 0 Try.prog 68 #[.pointer (some p),.pointer (some q)] (.panicking [{ v:=panV 129,recovered:=false }]) w fun e u' w'=>e=.returned (.tuple #[])/\u'=.panicking [{ v:=panV 129,recovered:=true }]/\w'=((w.alloc (Obj.cells #[] 129)).setCell p (.slice none 0 0)).setCell q (.bool false):=by
 refine callsDIn_of_wpSIn Try.func68 rfl trivial fun c₀ cs hu=>?_
 have hta:=hta
 unfold panV at hu hta ⊢
 apply wpSIn_seq
 apply wpSIn_region
 simp [wpOpsSIn,go_sem,recoverD,hu,Try.ntmps68,Exit.thenS]
 apply wpSIn_seq
 apply wpSIn_region
 simp [wpOpsSIn,go_sem,recoverD,hu,Try.ntmps68,Exit.thenS]
 refine wpSIn_cond (t:=true) (by simp [Act.eval,Array.replicate]) ?_
 simp only [if_true]
 apply wpSIn_seq
 apply wpSIn_seq
 apply wpSIn_region
 simp [wpOpsSIn,go_sem,recoverD,hu,Try.ntmps68,Exit.thenS,hta]
 apply wpSIn_seq
 apply wpSIn_region
 simp [wpOpsSIn,go_sem,recoverD,hu,Try.ntmps68,Exit.thenS]
 refine wpSIn_cond (t:=false) (by simp [Act.eval,Array.replicate]) ?_
 simp only [zo,if_false]
 refine wpSIn_of_wpIn rfl (wpIn_skip ?_)
 simp only [Exit.thenS]
 apply wpSIn_region
 simp [wpOpsSIn,go_sem,h1,h2,h3,h4,bodyPostS,results,Try.results68]
abbrev rowsS:Sh:=.sl (.pair (.int .i64) (.pair (.int .i64) (.int .i64)))
abbrev histS:Sh:=.sl (.pair (.sl (.int .i64)) rowsS)
abbrev Sg_hh:Sig:=⟨[.form (.ptr 0 0)],[.cells [.sl (.int .u8)]],[.dat false histS,.dat false .bool],[.gone],[]⟩
noncomputable def D_hh(N:Nat)(x:List Int):Option (List (List Int×List (Int×Int×Int))×Bool):=(X_wire_hist N (x,false)).map fun y=>match y with | .inl z=>(z.1,z.2.1) | .inr _=>([],false)
noncomputable def r0_hist:Code:=match bodyOf Try.f43 with | .seq a _=>a | c=>c
noncomputable def r1_hist:Code:=match bodyOf Try.f43 with | .seq _ (.seq a _)=>a | c=>c
theorem body_hist:bodyOf Try.f43=.seq r0_hist (.seq r1_hist code_wire_hist):=by kernel_rfl
def K0(c:Ctl)(t:Slots)(h:List O):Option (Slots×List O):=match c with | .normal=>some (t,h) | _=>none
theorem ex_r0(N:Nat)(x:List Int):exec (C_wire_hist N) r0_hist .none (argS 0 [.ptr 0 0]) [.cells [.sl (.int .u8) x]] K0=some ([(3,.ptr 2 0),(2,.ptr 1 0),(0,.ptr 0 0)],[.cells [.sl (.int .u8) x],.cells [.nil],.cells [.bool false]]):=by kernel_rfl
def PR_hh(w:World)(A M0:Nat->Prop)(σ:Nat->Abs.Loc)(x:List Int)(y:histS.den×Bool)(e:Ending)(w':World):Prop:=
 ∃ v σ',e=.returned v/\Abs.Next w A M0 w [.cells [.sl (.int .u8) x]] σ w' [.gone] σ'/\RV w' (mutb M0 [.gone] σ') [.gone] σ' (.tup [Go.Abs.enc histS y.1,.bool y.2]) v
theorem catch_late{w w':World}{b1 b2:Nat}(h1:w.heap.size<=b1)(h2:w.heap.size<=b2)(hw:w.heap.size<=w'.heap.size)(x y:Value){k:Nat}(hk:k<w.heap.size) :
  (((w'.alloc (Obj.cells #[] 129)).setCell ⟨b1,0,none⟩ x).setCell ⟨b2,0,none⟩ y).heap[k]? = w'.heap[k]?:=by
 have e:∀ (W:World) (b:Nat) (v:Value),k≠b->(W.setCell ⟨b,0,none⟩ v).heap[k]? = W.heap[k]?:=fun W b v hne=>by
  simp only [World.setCell,zBl]
  rw [zK (Ne.symm hne)]
 rw [e _ _ _ (by omega),e _ _ _ (by omega)]
 simp only [World.alloc,Array.getElem?_push]
 rw [zK (by omega)]
theorem own_gone{σ:Nat->Abs.Loc}{b:Nat}:¬ own [.gone] σ b:=fun ⟨o,hl,_⟩=>by
 cases o with
 | zero=>exact hl
 | succ o=>exact hl
theorem cells1_two{h:List O}(hc:cells1 2 h.tail=true):∃ v1 s1 v2 s2,getO h 1=.cells (v1 :: s1)/\getO h 2=.cells (v2 :: s2):=by
 match h,hc with
 | _ :: .cells (v1 :: s1) :: .cells (v2 :: s2) :: r,_=>exact⟨v1,s1,v2,s2,rfl,rfl⟩
theorem isPtr_eq{o:Nat}{v:V}(h:isPtr o v=true):v=.ptr o 0:=by
 unfold isPtr at h
 split at h
 ·rw [zA h]
 ·cases h
theorem catch_cell{W:World}{b:Nat}{cs:Array Value}{e:TypeId}{u:Value}{r:List Value}(hb:W.heap[b]? = some (.cells cs e (0,0)))(hc:cs.toList=u :: r):(W.alloc (Obj.cells #[] 129)).cell? ⟨b,0,none⟩=some u/\(W.alloc (Obj.cells #[] 129)).frozen? ⟨b,0,none⟩=false:=by
 have hlt:=(zG.1 hb).1
 have e1:(W.alloc (Obj.cells #[] 129)).heap[b]? = some (.cells cs e (0,0)):=by
  simp only [World.alloc,Array.getElem?_push]
  rw [zK (by omega)];exact hb
 have e2:cs[0]? = some u:=by
  rw [<- zu,hc];rfl
 constructor
 ·simp [World.cell?,e1,e2]
 ·simp [World.frozen?,e1]
theorem sp_hh(N:Nat):SpecH Try.prog [] 43 Sg_hh (D_hh N):=by
 intro w A M0 σ x y vs hgw hgo R hv hD
 obtain⟨z,hz,hy⟩:=zAe.1 hD
 have R:Rep w A M0 w [.cells [.sl (.int .u8) x]] σ:=R
 have hv:RVs w (mutb M0 [.cells [.sl (.int .u8) x]] σ) [.cells [.sl (.int .u8) x]] σ [.ptr 0 0] vs:=hv
 have hL:Gl [] w A:=⟨hgw,hgo⟩
 refine Calls.mono (R:=PR_hh w A M0 σ x y) ?_ (fun e w' h=>h)
 refine callsIn_wide.1 (callsIn_of_wp_defers (F:=Fence.wide) (n:=0) (fn:=Try.f43) (c:=bodyOf Try.f43) (by kernel_rfl) rfl trivial ?_)
 have hl:=hv.length
 have hnt:Try.f43.ntmps=45:=by kernel_rfl
 have htm:∀ i,RV w (mutb M0 [.cells [.sl (.int .u8) x]] σ) [.cells [.sl (.int .u8) x]] σ (Abs.look (argS 0 [.ptr 0 0]) i) ((vs.toArray++Array.replicate (Try.f43.ntmps - vs.toArray.size) undef).getD i undef):=fun i=>by
  have:=argS_rv [.ptr 0 0] 0 i hv
  rw [Nat.zero_add] at this
  have e:(vs.toArray++Array.replicate (Try.f43.ntmps - vs.toArray.size) undef).getD i undef=vs.getD i undef:=by
   simp only [zL,zBm,zJ,List.size_toArray,zBj]
   split
   ·rfl
   ·rename_i hni
    rw [zO (by omega),zAS]
    split <;> rfl
  simp only [e];exact this
 rw [body_hist]
 refine wpIn_seq (pieceX R (tok_wire_hist N) (gok_wire_hist N) (fun _ _ _=>rfl) (xok_wire_hist N) hL (by kernel_rfl) (ex_r0 N x) htm ?_ ?_)
 ·simp only [zBX,List.size_toArray,zBo,hnt]
  show _=45
  simp only [zt] at hl
  omega
 intro ct t1 h1 a1 w1 σ1 hk R1 hr1 hn1 hd1 far1
 cases ct with
 | normal=>
  simp only [K0,zC,zP] at hk
  obtain⟨rfl,rfl⟩:=hk
  show Code.wpIn _ _ _ (.seq r1_hist code_wire_hist) _ _ _
  have e1:r1_hist=Code.region 1 _ false:=rfl
  rw [e1]
  have hs5:5<a1.tmps.size:=by rw [hn1];show 5<45;omega
  refine wpIn_seq (wpIn_region ?_)
  simp [wpOpsIn,go_sem,hs5]
  obtain⟨b1,hb1,hp1⟩:∃ b,(σ1 1).a=some b/\a1.tmps[2]?.getD undef=.pointer (some ⟨b,0,none⟩):=by
   have:=hr1 2
   simp only [Abs.look,zL] at this
   simp only [show Nat.beq 3 2=false from rfl,show Nat.beq 2 2=true from rfl,cond_false,cond_true,RV] at this
   obtain⟨b,h1,h2⟩:=this
   exact⟨b,h1,h2⟩
  obtain⟨b2,hb2,hp2⟩:∃ b,(σ1 2).a=some b/\a1.tmps[3]?.getD undef=.pointer (some ⟨b,0,none⟩):=by
   have:=hr1 3
   simp only [Abs.look,zL] at this
   simp only [show Nat.beq 3 3=true from rfl,cond_true,RV] at this
   obtain⟨b,h1,h2⟩:=this
   exact⟨b,h1,h2⟩
  rw [hp1,hp2]
  have hg:∀ i v,i≠5->(a1.tmps.setIfInBounds 5 v).getD i undef=a1.tmps.getD i undef:=fun i v hi=>by
   simp only [zL,zj,zK (Ne.symm hi)]
  refine pieceX R1 (tok_wire_hist N) (gok_wire_hist N) (fun _ _ _=>rfl) (xok_wire_hist N) hL (by kernel_rfl) ((ex_wire_hist N (x,false)).trans hz) ?_ ?_ ?_
  ·intro i
   match i with
   | 0=>rw [hg 0 _ (by omega)];exact hr1 0
   | 1=>exact (by simp only [RV]:RV _ _ _ _ .bad _)
   | 2=>rw [hg 2 _ (by omega)];exact hr1 2
   | 3=>rw [hg 3 _ (by omega)];exact hr1 3
   | n+4=>exact (by simp only [RV]:RV _ _ _ _ .bad _)
  ·simp only [Array.size_setIfInBounds];exact hn1
  intro ct t' h' a' w' σ' hk R' hr' hn' hd' far'
  have far:=far1.trans far' (fun b hb=>(R1.foreign b hb).2)
  have N1:Abs.Next w A M0 w [.cells [.sl (.int .u8) x]] σ w' [.gone] σ':=bad_next R R' far (fun o ho=>by
   cases o with
   | zero=>exact⟨by show 0<3;omega,trivial⟩
   | succ o=>exact absurd rfl ho)
  have hdf:a'.defers = [{ target:=.fn (.func 68) #[.pointer (some ⟨b1,0,none⟩),.pointer (some ⟨b2,0,none⟩)],args:=#[] }]:=by
   rw [hd']
   simp [hd1]
  have hm0:∀ v X,RV w' M0 [] σ0 v X->RV w' M0 [] σ0 v X:=fun _ _ h=>h
  have key:(match resL (C_wire_hist N) (Abs.look t') h' Try.f43.results.toList with | some vs=>finDX Rk_wire_hist (retV vs) h' | none=>none)=some z ->
    LeavesIn Fence.wide 0 Try.prog Try.f43 a'.tmps (PR_hh w A M0 σ x y) a'.defers .returning w':=fun hc=>by
   rw [hdf]
   refine leavesIn_cons (f:=68) (args:=#[.pointer (some ⟨b1,0,none⟩),.pointer (some ⟨b2,0,none⟩)]) (by simp) (by simp [Fence.wide]) (by simp [go_sem]) (fun _ _=>trivial) ?_
   refine (catch_idle ⟨b1,0,none⟩ ⟨b2,0,none⟩ w').mono ?_
   rintro e u' w'' ⟨rfl,rfl,hw⟩
   obtain rfl:w'=w'':=hw.symm
   split at hc
   ·rename_i us hus
    obtain⟨x1,q1,q2⟩:=results_sound (tok_wire_hist N) R' hr' hus
    unfold finDX at hc
    split at hc
    ·rename_i y0 hy0
     cases hc
     have q3:=finD_sound R' q2 hy0
     refine⟨x1,q1,x1,σ',rfl,N1,?_⟩
     subst hy
     have q3:RV w' M0 [] σ0 (.tup [Go.Abs.enc histS y0.1,.bool y0.2.1]) x1:=q3
     show RV w' (mutb M0 [.gone] σ') [.gone] σ' (.tup [Go.Abs.enc histS y0.1,.bool y0.2.1]) x1
     simp only [Go.Abs.enc,RV,RVs] at q3 ⊢
     obtain⟨cs,g1,v1,r1,g2,g3,g4⟩:=q3
     exact⟨cs,g1,v1,r1,g2,RC.keeps (keepsId fun b hb=>hb.elim id fun ho=>absurd ho own_gone) g3,g4⟩
    ·cases hc
   ·cases hc
  cases ct with
  | exit id=>cases hk
  | normal=>exact key hk
  | ret=>exact key hk
  | pan ty=>
   have hk:finPX 129 3 [(2,1),(3,2)] ty t' h'=some z:=hk
   unfold finPX at hk
   obtain⟨hc,hzz⟩:=cond_some hk
   simp only [List.all_cons,List.all_nil,Bool.and_true,zB] at hc
   obtain⟨hty,hcl,hi1,hi2⟩:=hc
   obtain rfl:=zA hty
   obtain⟨v1,s1,v2,s2,ho1,ho2⟩:=cells1_two hcl
   have hst1:σ' 1=σ1 1:=by
    rcases far'.step 1 (by show 1<3;omega) with⟨_,_,h⟩ | ⟨h,_⟩
    ·exact h
    ·rw [ho1] at h;cases h
   have hst2:σ' 2=σ1 2:=by
    rcases far'.step 2 (by show 2<3;omega) with⟨_,_,h⟩ | ⟨h,_⟩
    ·exact h
    ·rw [ho2] at h;cases h
   have g1:=hr' 2
   rw [isPtr_eq hi1] at g1
   simp only [RV] at g1
   rw [ho1,hst1,hb1] at g1
   obtain⟨c1,g1,g1'⟩:=g1
   cases g1
   have g2:=hr' 3
   rw [isPtr_eq hi2] at g2
   simp only [RV] at g2
   rw [ho2,hst2,hb2] at g2
   obtain⟨c2,g2,g2'⟩:=g2
   cases g2
   have g1':a'.tmps.getD 2 undef=.pointer (some ⟨b1,0,none⟩):=g1'
   have g2':a'.tmps.getD 3 undef=.pointer (some ⟨b2,0,none⟩):=g2'
   have r1:=R'.obj 1
   rw [ho1,hst1] at r1
   obtain⟨c1,e1,cs1,k1,k2,k3,-⟩:=r1
   rw [hb1] at k1;cases k1
   obtain⟨u1,l1,k3,-⟩:=k3
   have r2:=R'.obj 2
   rw [ho2,hst2] at r2
   obtain⟨c2,e2,cs2,j1,j2,j3,-⟩:=r2
   rw [hb2] at j1;cases j1
   obtain⟨u2,l2,j3,-⟩:=j3
   have hne:b1≠b2:=fun h=>by
    have:=R'.apart 1 2 b1 (by rw [ho1];trivial) (by rw [ho2];trivial) (.of (by rw [hst1];exact hb1)) (.of (by rw [hst2,h];exact hb2))
    cases this
   have late:∀ o b,0<o->o<3->(σ1 o).a=some b->live (getO [O.cells [.sl (.int .u8) x],.cells [.nil],.cells [.bool false]] o)->w.heap.size<=b:=fun o b h0 h3 hb hl=>by
    refine Classical.byContradiction fun hlt=>?_
    have hlt:b<w.heap.size:=by omega
    refine far1.keeps.out b hlt (fun hm=>?_) (.inr ⟨o,hl,.of hb⟩)
    rcases hm with hm | ⟨o',hl',ha⟩
    ·exact (R1.foreign b hm).2 ⟨o,hl,.of hb⟩
    ·cases o' with
     | succ o'=>exact hl'
     | zero=>
      have hs0:σ1 0=σ 0:=by
       rcases far1.step 0 (by show 0<3;omega) with⟨_,_,h⟩ | ⟨h,_⟩
       ·exact h
       ·cases h
      have:=R1.apart 0 o b trivial hl (by rw [hs0];exact ha) (.of hb)
      omega
   have hl1:=late 1 b1 (by omega) (by omega) hb1 trivial
   have hl2:=late 2 b2 (by omega) (by omega) hb2 trivial
   have hsz:=far.goes.size
   have hcl1:=catch_cell k2 k3
   have hcl2:=catch_cell j2 j3
   cases hzz
   subst hy
   show LeavesIn Fence.wide 0 Try.prog Try.f43 a'.tmps (PR_hh w A M0 σ x ([],false)) a'.defers (.panicking [{ v:=panV 129,recovered:=false }]) w'
   rw [hdf]
   refine leavesIn_cons (f:=68) (args:=#[.pointer (some ⟨b1,0,none⟩),.pointer (some ⟨b2,0,none⟩)]) (by simp) (by simp [Fence.wide]) (by simp [go_sem]) (fun _ _=>trivial) ?_
   refine (catch_some ⟨b1,0,none⟩ ⟨b2,0,none⟩ w' u1 u2 hcl1.1 hcl1.2 ?_ ?_).mono ?_
   ·have hna:(⟨b1,0,none⟩:Addr)≠⟨b2,0,none⟩:=fun h=>hne (congrArg Addr.block h)
    exact (World.cell?_setCell_other _ _ _ _ hna).trans hcl2.1
   ·rw [World.frozen?_setCell];exact hcl2.2
   rintro e u' w'' ⟨rfl,rfl,rfl⟩
   have hold:=fun k hk=>catch_late (w:=w) (w':=w') hl1 hl2 hsz (.slice none 0 0) (.bool false) (k:=k) hk
   have hna:(⟨b1,0,none⟩:Addr)≠⟨b2,0,none⟩:=fun h=>hne (congrArg Addr.block h)
   have f1:=(World.cell?_setCell_other (w'.alloc (Obj.cells #[] 129)) _ _ (.slice none 0 0) hna).trans hcl2.1
   have f2:=World.cell?_setCell_same' _ ⟨b2,0,none⟩ (.bool false) (by rw [f1];rfl)
   have f3:=World.cell?_setCell_same' (w'.alloc (Obj.cells #[] 129)) ⟨b1,0,none⟩ (.slice none 0 0) (by rw [hcl1.1];rfl)
   have f4:=(World.cell?_setCell_other _ _ _ (.bool false) hna.symm).trans f3
   have hsz2:w.heap.size<=(((w'.alloc (Obj.cells #[] 129)).setCell ⟨b1,0,none⟩ (.slice none 0 0)).setCell ⟨b2,0,none⟩ (.bool false)).heap.size:=by
    rw [World.size_setCell,World.size_setCell,World.size_alloc];omega
   revert hold f2 f4 hsz2
   have fos:(((w'.alloc (Obj.cells #[] 129)).setCell ⟨b1,0,none⟩ (.slice none 0 0)).setCell ⟨b2,0,none⟩ (.bool false)).os=w'.os:=rfl
   have fta:(((w'.alloc (Obj.cells #[] 129)).setCell ⟨b1,0,none⟩ (.slice none 0 0)).setCell ⟨b2,0,none⟩ (.bool false)).tape=w'.tape:=rfl
   have fdr:(((w'.alloc (Obj.cells #[] 129)).setCell ⟨b1,0,none⟩ (.slice none 0 0)).setCell ⟨b2,0,none⟩ (.bool false)).drawn=w'.drawn:=rfl
   have fou:(((w'.alloc (Obj.cells #[] 129)).setCell ⟨b1,0,none⟩ (.slice none 0 0)).setCell ⟨b2,0,none⟩ (.bool false)).output=w'.output:=rfl
   revert fos fta fdr fou
   generalize ((w'.alloc (Obj.cells #[] 129)).setCell ⟨b1,0,none⟩ (.slice none 0 0)).setCell ⟨b2,0,none⟩ (.bool false)=W2
   intro fos fta fdr fou hold f2 f4 hsz2
   rw [zL] at g1' g2'
   have hres:(results Try.f43 a'.tmps).run Try.prog W2=.ok (.tuple #[.slice none 0 0,.bool false]) W2:=by
    simp [results,Try.results43,go_sem,g1',g2',f2,f4]
   refine⟨.tuple #[.slice none 0 0,.bool false],hres,_,σ',rfl,⟨⟨⟨fos.trans N1.rep.fr.os,⟨fta.trans N1.rep.fr.tape.1,by rw [fdr];exact N1.rep.fr.tape.2⟩,fou.trans N1.rep.fr.output,hsz2,fun b hb hn=>(hold b hb).trans (N1.rep.fr.block b hb hn)⟩,N1.rep.m0,fun b hb=>absurd hb own_gone,fun o o' b h1 h2 h3 _=>absurd ⟨o,h1,h3⟩ own_gone,fun o=>by cases o <;> trivial⟩,
    ⟨fos.trans N1.goes.os,⟨fta.trans N1.goes.tape.1,by rw [fdr];exact N1.goes.tape.2⟩,fou.trans N1.goes.output,hsz2,fun b hb hn=>(hold b hb).trans (N1.goes.block b hb hn)⟩,⟨hsz2,fun b hb hm=>(hold b hb).trans (N1.keeps.block b hb hm),N1.keeps.out⟩,N1.step⟩,?_⟩
   simp only [Go.Abs.enc,RV,RVs,RC]
   exact⟨_,rfl,_,_,rfl,⟨none,0,rfl,Nat.le_refl _,zw _,fun h=>absurd rfl h⟩,_,_,rfl,rfl,rfl⟩
 | _=>cases hk
theorem en_hh(N:Nat):EntOk Try.prog [] (mkHe 43 Sg_hh (D_hh N)):=entH ⟨Try.f43,bodyOf Try.f43,by kernel_rfl,by kernel_rfl,rfl⟩ (sp_hh N)
end Go.Proofs.Ytcjecibocjbdmaa
