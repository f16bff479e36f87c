import Derived.Test.YtgnnhemoocfclaaDoorReaE
import Derived.Test.YtgnnhemoocfclaaDoorFrame
namespace Go.Proofs.YtgnnhemoocfclaaDoor
open Go Go.ChangeShapes Go.WideShapes Go.ChangeAt Go.WideMaps Go.WideElems Go.RowKit Go.Abs
abbrev SX : Sh:=.sl (.int .i64)
abbrev SV : Sh:=.pair (.int .i64) (.pair (.int .i64) (.int .i64))
abbrev qgw : List Kd:=[.dat (.pair (.sl (.pair (.int .i64) (.pair (.int .i64) SV))) (.sl SV)),.dat (.int .i64),.dat SX]
abbrev qgt : List Kd:=[.dat (.bool)]
abbrev qgr : Type:=Dens qgt
noncomputable def qlF (_N : Nat) : Ctx:={ T:=[(3,⟨.int .i64,1,8,some (.int .i64),[.int .i64 (0 : Int)],false,[]⟩),(22,⟨.slice 37,1,24,some (.sl (.pair (.int .i64) (.pair (.int .i64) SV))),[.nil],false,[]⟩),(23,⟨.slice 42,1,24,some (.sl SV),[.nil],false,[]⟩),(25,⟨.struct [(0,22),(1,23)],2,48,some (.pair (.sl (.pair (.int .i64) (.pair (.int .i64) SV))) (.sl SV)),[.nil,.nil],false,[]⟩),(27,⟨.int .i64,1,8,some (.int .i64),[.int .i64 (0 : Int)],false,[]⟩),(29,⟨.struct [(0,27),(1,3)],2,16,some (.pair (.int .i64) (.int .i64)),[.int .i64 (0 : Int),.int .i64 (0 : Int)],true,[]⟩),(37,⟨.struct [(0,3),(1,3),(2,35)],5,40,some (.pair (.int .i64) (.pair (.int .i64) SV)),[.int .i64 (0 : Int),.int .i64 (0 : Int),.int .i64 (0 : Int),.int .i64 (0 : Int),.int .i64 (0 : Int)],true,[]⟩),(38,⟨.slice 3,1,24,some SX,[.nil],false,[]⟩),(40,⟨.struct [(0,3),(1,3),(2,38)],3,40,some (.pair (.int .i64) (.pair (.int .i64) SX)),[.int .i64 (0 : Int),.int .i64 (0 : Int),.nil],false,[]⟩),(42,⟨.struct [(0,3),(1,3),(2,3)],3,24,some SV,[.int .i64 (0 : Int),.int .i64 (0 : Int),.int .i64 (0 : Int)],true,[]⟩),(52,⟨.struct [(0,3),(1,38)],2,32,some (.pair (.int .i64) SX),[.int .i64 (0 : Int),.nil],false,[]⟩)],G:=findE [mkP 12 qcN qcJ (qbz _N),mkQ 13 qeL qeH (qcA _N),mkQ 20 qds qdp (qaY _N),mkP 17 qev qen (qaV _N)],I:=findI [],N:=_N,n:=87,fx:=[],fl:=0,gs:=Gs }
noncomputable def qgY (_N : Nat) (_x1 : List (Int × Int × Int × Int × Int) × List (Int × Int × Int)) (_x2 : Int) (_x3 : List Int) : Option qgr :=
 ((qbz _N ((_x1.1,_x1.2),())).bind fun _y5=>(bif (_y5.1.1 != (0 : Int)) then (some (true,())) else (bif (decide (_x2 < (0 : Int))) then (some (true,())) else (bif (decide (_x2 >= (_x1.2.length : Int))) then (some (true,())) else (bif (decide (0 <= _x2) && decide (_x2 < (_x1.2.length : Int))) then (bif (decide (0 <= ((nth ((0 : Int),((0 : Int),(0 : Int))) _x1.2 (_x2).toNat).1)) && decide (((nth ((0 : Int),((0 : Int),(0 : Int))) _x1.2 (_x2).toNat).1) < (_x1.1.length : Int))) then ((qcA _N (((nth ((0 : Int),((0 : Int),((0 : Int),((0 : Int),(0 : Int))))) _x1.1 ((nth ((0 : Int),((0 : Int),(0 : Int))) _x1.2 (_x2).toNat).1).toNat).1,(((nth ((0 : Int),((0 : Int),((0 : Int),((0 : Int),(0 : Int))))) _x1.1 ((nth ((0 : Int),((0 : Int),(0 : Int))) _x1.2 (_x2).toNat).1).toNat).2).1,((((nth ((0 : Int),((0 : Int),((0 : Int),((0 : Int),(0 : Int))))) _x1.1 ((nth ((0 : Int),((0 : Int),(0 : Int))) _x1.2 (_x2).toNat).1).toNat).2).2).1,(((((nth ((0 : Int),((0 : Int),((0 : Int),((0 : Int),(0 : Int))))) _x1.1 ((nth ((0 : Int),((0 : Int),(0 : Int))) _x1.2 (_x2).toNat).1).toNat).2).2).2).1,((((nth ((0 : Int),((0 : Int),((0 : Int),((0 : Int),(0 : Int))))) _x1.1 ((nth ((0 : Int),((0 : Int),(0 : Int))) _x1.2 (_x2).toNat).1).toNat).2).2).2).2)))),())).bind fun _y6=>((qaY _N ((_y6.1.1,(_y6.1.2.1,_y6.1.2.2)),_x3,())).bind fun _y7=>(bif (_y6.2.1 != (0 : Int)) then (some ((_y6.2.1 == (0 : Int)),())) else (bif (_y7.2.1 != (0 : Int)) then (some ((_y6.2.1 == (0 : Int)),())) else (bif (decide (0 <= ((nth ((0 : Int),((0 : Int),(0 : Int))) _x1.2 (_x2).toNat).1)) && decide (((nth ((0 : Int),((0 : Int),(0 : Int))) _x1.2 (_x2).toNat).1) < (_x1.1.length : Int))) then (bif ((_x3.length : Int) != (((nth ((0 : Int),((0 : Int),((0 : Int),((0 : Int),(0 : Int))))) _x1.1 ((nth ((0 : Int),((0 : Int),(0 : Int))) _x1.2 (_x2).toNat).1).toNat).2).1)) then (some ((_y6.2.1 == (0 : Int)),())) else ((qaV _N ((_x1.1,_x1.2),((nth ((0 : Int),((0 : Int),(0 : Int))) _x1.2 (_x2).toNat).1,_x3),(((nth ((0 : Int),((0 : Int),(0 : Int))) _x1.2 (_x2).toNat).2).1,_y7.1),())).bind fun _y8=>(bif (_y8.2.1 == (0 : Int)) then (some (_y8.1,())) else (some (false,()))))) else none))))) else none) else none)))))
noncomputable def qeh (_N : Nat) (_x : Dens qgw) : Option qgr:=qgY _N _x.1 _x.2.1 _x.2.2.1
theorem qka (_N : Nat) : SpecD Tryd.prog Gs 8 qgw qgt (qeh _N):=mkSpD (fn:=Tryd.f8) (c:=qF Tryd.f8) (C:=qlF _N)
  (a:=.none)
  (by kernel_rfl) rfl (by kernel_rfl) (by kernel_rfl) ⟨rfl,by unfold TOk; kernel_rfl,qaq rfl rfl (List.forall_mem_cons.2 ⟨qlv _N,(List.forall_mem_cons.2 ⟨qkm _N,(List.forall_mem_cons.2 ⟨qlg _N,(List.forall_mem_cons.2 ⟨qoW _N,(List.forall_mem_nil _)⟩)⟩)⟩)⟩),qap rfl rfl (List.forall_mem_nil _),rfl⟩ (fun _x=>by kernel_rfl)
open Rea
open Gh (Nd Ed qaf GrOk nsum)
theorem law_ReachSteps (g : List Nd × List Ed) (i : Int) (t : List Int) (_h1 : wfS (.pair (.sl (.pair (.int .i64) (.pair (.int .i64) SV))) (.sl SV)) g) (_h2 : wfS (.int .i64) i) (_h3 : wfS SX t) : ∃ N,qeh N (g,i,t,()) = some (true,()):=by
 obtain ⟨ns,es⟩:=g
 obtain ⟨N,hN⟩ : ∃ N : Nat,600000000 <= N:=⟨600000000,Nat.le_refl _⟩
 refine ⟨N,?_⟩
 obtain ⟨c,p,e1,e2⟩:=Gh.GraphCheck_eq (N:=N) (by omega) ns es
 simp only [qeh,qgY,e1,Option.bind_some]
 by_cases hc : c = 0
 case neg=>rw [bne_iff_ne.2 hc,cond_true]
 subst hc
 have h:=e2.1 rfl
 rw [bne_self_eq_false,cond_false]
 by_cases h0 : i < 0
 ·rw [qi h0,cond_true]
 by_cases hn : i >= es.length
 ·rw [qj h0,qi hn,cond_true,cond_false]
 have hm : nth Gh.z3 es i.toNat ∈ es:=qbu (by omega)
 generalize nth Gh.z3 es i.toNat = d at hm ⊢
 have x:=edgeF h hm
 rw [qj h0,qj hn,cond_false,cond_false,qi (show (0 : Int) <= i by omega),qi (show i < (es.length : Int) by omega),qi x.f0,qi x.fn]
 simp only [Bool.and_self,cond_true]
 have hsum:=qzt N (qnd h x.f0 x.fn)
 simp only [Gh.nd_eta,hsum,Option.bind_some,bne_self_eq_false,cond_false,beq_self_eq_true]
 have hq3 : ((nsum (nth Gh.z5 ns d.1.toNat)).1,((nsum (nth Gh.z5 ns d.1.toNat)).2.1,(nsum (nth Gh.z5 ns d.1.toNat)).2.2)) = qn ns d.1:=rfl
 rw [hq3]
 obtain ⟨y,e,h3,h4,h5⟩:=qrw (N:=N) (by omega) (qn ns d.1) t
 simp only [h3,Option.bind_some]
 by_cases q : e = 0
 case neg=>rw [bne_iff_ne.2 q,cond_true]
 subst q
 rw [bne_self_eq_false,cond_false]
 by_cases hl : (t.length : Int) = dp ns d.1
 case neg =>
  have hl2 : ((t.length : Int) != ((nth Gh.z5 ns d.1.toNat).2).1) = true:=bne_iff_ne.2 hl
  rw [hl2,cond_true]
 have hl2 : ((t.length : Int) != ((nth Gh.z5 ns d.1.toNat).2).1) = false:=bne_eq_false_iff_eq.2 hl
 rw [hl2,cond_false]
 have hk:=h4.1 rfl
 have hy:=h5 rfl
 subst hy
 rcases qxY (N:=N) (by omega) ns es with ⟨h6,-⟩ | ⟨-,P,hP,hC⟩
 ·exact absurd h h6
 ·obtain ⟨sa,sb,hcd⟩:=qvK h hP hm hl hk
  obtain ⟨c1,e3,a1,a2,a3⟩:=hC (d.1,t) (d.2.1,apl (qn ns d.1) t)
  have q1:=a2.2 ⟨sa,sb⟩
  have t1:=(a3 q1).2 hcd
  simp only [a1,Option.bind_some,q1,t1,beq_self_eq_true,cond_true]
set_option maxRecDepth 100000 in
theorem lifted_ReachSteps (os : Os) (started : os.Started) (H : Type) (enc : TypeId × Value -> H) :
  ReturnsInHanded {} Tryd.checked os 8 .any (fun w args=>(Rows.reachStepsSpec.pre enc Tryd.prog Tryd.f8 [] false w args /\ laidMetH Tryd.prog Rows.reachStepsRow.laid w) /\ sizedMet enc Tryd.prog Tryd.f8 (OpenSpec.ofChange Rows.reachStepsSpec) false w args) (Rows.reachStepsSpec.post enc Tryd.prog Tryd.f8 false true false false):=by
 refine returnsInHanded_of_change_and (C:=Tryd.checked) (X:=fun w _=>laidMetH Tryd.prog Rows.reachStepsRow.laid w) (fun _ _ _ hh h=>h.of_heap hh) own started (by kernel_rfl) Tryd.func8
  (ChangeSpec.witness_shaped (enc:=enc) (C:=Tryd.checked) (os:=os) (X:=fun w _=>laidMetH Tryd.prog Rows.reachStepsRow.laid w) false (World.doorLaid Tryd.prog 400 os) #[.agg #[.slice none 0 0,.slice none 0 0],.int .i64 0,.slice none 0 0] 8 rfl (World.shaped_of_RefB (by kernel_rfl) (by kernel_rfl)) (by kernel_rfl) (by kernel_rfl) (by kernel_rfl) (door_met os _)) ?_
 intro W base args ds gs before hval0 hW _ hsz0 hL _
 have hgw : GW Gs W:=gw_of hL
 have hval : ∀ (j : Nat) t v,Tryd.f8.params[j]? = some t -> args[j]? = some v -> Value.okWide Tryd.prog W .any base t v:=hval0
 have hW':=hW
 obtain ⟨p,q,hA0,hV,rfl,_,_⟩:=hW
 have hA : DataW.TrodAll enc Tryd.prog W 0 (fun _=>true) true Tryd.f8.params.toList args.toList ds p:=hA0
 rw [Tryd.params8] at hA hval
 obtain ⟨v0,vs0,d0,ds0,p0,q0,hargs,rfl,rfl,h0,r0⟩:=trodAll_cons hA
 obtain ⟨v1,vs1,d1,ds1,p1,q1,rfl,rfl,rfl,h1,r1⟩:=trodAll_cons r0
 obtain ⟨v2,vs2,d2,ds2,p2,q2,rfl,rfl,rfl,h2,r2⟩:=trodAll_cons r1
 obtain ⟨rfl,rfl,rfl⟩:=trodAll_nil r2
 obtain rfl : args = #[v0,v1,v2]:=by cases args; simp_all
 obtain ⟨rfl,rfl⟩:=trodVars_none hV
 have hall:=List.all_eq_true.1 hsz0
 clear hA0 hval0 hsz0
 simp only [List.append_nil] at hW'
 have hlt0 : ∀ x ∈ p0,x.block < W.heap.size:=fun x hx=>hW'.lt x (by simp [hx])
 have hlt1 : ∀ x ∈ p1,x.block < W.heap.size:=fun x hx=>hW'.lt x (by simp [hx])
 have hlt2 : ∀ x ∈ p2,x.block < W.heap.size:=fun x hx=>hW'.lt x (by simp [hx])
 obtain ⟨x0,g0,w0⟩:=qtA (k:=.dat (.pair (.sl (.pair (.int .i64) (.pair (.int .i64) SV))) (.sl SV))) (by kernel_rfl) (hval 0 25 v0 rfl rfl) h0
 obtain ⟨x1,g1,w1⟩:=qtA (k:=.dat (.int .i64)) (by kernel_rfl) (hval 1 3 v1 rfl rfl) h1
 obtain ⟨x2,g2,w2⟩:=qtA (k:=.dat SX) (by kernel_rfl) (hval 2 38 v2 rfl rfl) h2
 obtain ⟨N,hN⟩:=law_ReachSteps x0 x1 x2 w0 w1 w2
 refine (qka N (fun _=>False) W (x0,x1,x2,()) (true,()) [v0,v1,v2] (fun _ h=>h.elim) hgw ⟨v0,_,rfl,g0,⟨v1,_,rfl,g1,⟨v2,_,rfl,g2,rfl⟩⟩⟩ hN).mono ?_
 rintro e W' ⟨v,rfl,hg,hr⟩
 replace hg:=hg.old
 have hr : v = .bool true:=by simpa only [kvals,retV,Kd.val,Go.Abs.enc,RV] using hr
 subst hr
 exact ⟨_,rfl,_,_,_,[],p0 ++ (p1 ++ (p2 ++ [])),[],hW',(trodAll_cons_mk (shut_bool (show Tryd.prog.underlying 4 = some .bool by kernel_rfl) _) trodAll_mk0),(trodAll_cons_mk (Below.trod laidOut (by kernel_rfl) (of_decide_eq_true (by kernel_rfl)) h0 hg hlt0) (trodAll_cons_mk (Below.trod laidOut (by kernel_rfl) (of_decide_eq_true (by kernel_rfl)) h1 hg hlt1) (trodAll_cons_mk (Below.trod laidOut (by kernel_rfl) (of_decide_eq_true (by kernel_rfl)) h2 hg hlt2) trodAll_mk0))),rfl,hg.frame _,fun h=>by cases h⟩
theorem reachSteps_holds : Rows.ReachStepsSaid :=
 OpenClaim.holds_of_wide 8 Tryd.f8 rfl rfl rfl rfl rfl rfl rfl ⟨rfl,rfl,rfl,rfl,rfl⟩ rfl rfl rfl rfl rfl (by kernel_rfl) Tryd.func8 (by kernel_rfl)
  (of_decide_eq_true (by kernel_rfl)) (by unfold Func.isWrapper; first | (rw [if_pos (by decide +kernel)]; kernel_rfl) | (rw [if_neg (by decide +kernel)]; exact ⟨rfl,rfl⟩))
  (fun os started H enc _=>lifted_ReachSteps os started H enc)
theorem reachSteps_card : Rows.ReachStepsCardSaid :=
 Claim7.holds_tied_plain_at .later [] [.data] true (true, "b049033100521c0328afe8a8273d62bdb84d2c9756645822752d68c43c86d84a") false reachSteps_holds (fun _ h => by cases h) (by kernel_rfl) (fun _ h => by cases h) reachSteps_row_tie rfl ⟨rfl, rfl⟩ (by kernel_rfl) rfl
  (fun f fn hf hfn=>by
   obtain rfl : f = 8 := Option.some.inj ((show Tryd.prog.funcNamed "watershed/watershedkeep.ReachSteps" = some 8 by kernel_rfl).symm.trans hf) |>.symm
   obtain rfl : fn = Tryd.f8:=(Option.some.inj (Tryd.func8.symm.trans hfn)).symm
   exact ⟨by kernel_rfl,fun j t ht=>by
    have h3:=List.all_eq_true.1 (show (Tryd.f8.params.toList.all fun t=>!(Tryd.prog.wantsStandIn t)) = true by kernel_rfl) t (by rw [<- Array.getElem?_toList] at ht; exact List.mem_of_getElem? ht)
    have h4 : Tryd.prog.wantsStandIn t = false:=by simpa using h3
    exact h4⟩)
  (by kernel_rfl)
end Go.Proofs.YtgnnhemoocfclaaDoor
