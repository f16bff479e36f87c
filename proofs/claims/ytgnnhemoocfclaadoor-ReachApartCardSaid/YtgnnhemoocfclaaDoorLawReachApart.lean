import Derived.Test.YtgnnhemoocfclaaDoorReaE
import Derived.Test.YtgnnhemoocfclaaDoorFrame
namespace Go.Proofs.YtgnnhemoocfclaaDoor
open Go Go.ChangeShapes Go.WideShapes Go.ChangeAt Go.WideMaps Go.WideElems Go.RowKit Go.Abs
abbrev SV : Sh:=.pair (.int .i64) (.sl (.int .i64))
abbrev SS : Sh:=.pair (.sl (.pair (.int .i64) (.pair (.int .i64) (.pair (.int .i64) (.pair (.int .i64) (.int .i64)))))) (.sl (.pair (.int .i64) (.pair (.int .i64) (.int .i64))))
abbrev qcA : List Kd:=[.dat SV,.dat SV]
abbrev qcx : List Kd:=[.dat (.bool)]
abbrev qgz : Type:=Dens qcx
noncomputable def qlC (_N : Nat) : Ctx:={ T:=[(3,⟨.int .i64,1,8,some (.int .i64),[.int .i64 (0 : Int)],false,[]⟩),(38,⟨.slice 3,1,24,some (.sl (.int .i64)),[.nil],false,[]⟩),(52,⟨.struct [(0,3),(1,38)],2,32,some SV,[.int .i64 (0 : Int),.nil],false,[]⟩)],G:=findE [mkP 40 qcZ qcW (qbL _N)],I:=findI [],N:=_N,n:=17,fx:=[],fl:=0,gs:=Gs }
noncomputable def qgZ (_N : Nat) (_x1 : Int × List Int) (_x2 : Int × List Int) : Option qgz :=
 (bif (_x1.1 == _x2.1) then ((qbL _N (_x1.2,_x2.2,())).bind fun _y2=>(some (_y2.1,()))) else (some (false,())))
noncomputable def qbX (_N : Nat) (_x : Dens qcA) : Option qgz:=qgZ _N _x.1 _x.2.1
theorem qkl (_N : Nat) : SpecD Tryd.prog Gs 18 qcA qcx (qbX _N):=mkSpD (fn:=Tryd.f18) (c:=qE Tryd.f18) (C:=qlC _N)
  (a:=.none)
  (by kernel_rfl) rfl (by kernel_rfl) (by kernel_rfl) ⟨rfl,by unfold TOk; kernel_rfl,qaA rfl rfl (List.forall_mem_cons.2 ⟨qly _N,(List.forall_mem_nil _)⟩),qaz rfl rfl (List.forall_mem_nil _),rfl⟩ (fun _x=>by kernel_rfl)
theorem qkC (_N : Nat) : EntOk Tryd.prog Gs (mkP 18 qcA qcx (qbX _N)):=entP ⟨Tryd.f18,qE Tryd.f18,by kernel_rfl,by kernel_rfl,rfl⟩ (by kernel_rfl) (qkl _N)
abbrev qfQ : List Kd:=[.dat SS,.dat SV,.dat SV]
abbrev qfN : List Kd:=[.dat (.bool)]
abbrev qfL : Type:=Dens qfN
noncomputable def qkM (_N : Nat) : Ctx:={ T:=[(25,⟨.struct [(0,22),(1,23)],2,48,some SS,[.nil,.nil],false,[]⟩),(52,⟨.struct [(0,3),(1,38)],2,32,some SV,[.int .i64 (0 : Int),.nil],false,[]⟩)],G:=findE [mkP 17 qdW qdQ (qaC _N),mkP 18 qcA qcx (qbX _N)],I:=findI [],N:=_N,n:=58,fx:=[],fl:=0,gs:=Gs }
noncomputable def qgq (_N : Nat) (_x1 : List (Int × Int × Int × Int × Int) × List (Int × Int × Int)) (_x2 : Int × List Int) (_x3 : Int × List Int) : Option qfL :=
 ((qaC _N ((_x1.1,_x1.2),(_x2.1,_x2.2),(_x3.1,_x3.2),())).bind fun _y5=>((qaC _N ((_x1.1,_x1.2),(_x3.1,_x3.2),(_x2.1,_x2.2),())).bind fun _y6=>((qaC _N ((_x1.1,_x1.2),(_x2.1,_x2.2),(_x2.1,_x2.2),())).bind fun _y7=>(bif (_y5.2.1 != (0 : Int)) then (some (true,())) else (bif (_y6.2.1 != (0 : Int)) then (some (true,())) else (bif (_y7.2.1 == (0 : Int)) then (bif _y7.1 then (bif (!_y5.1) then (some (true,())) else (bif (!_y6.1) then (some (true,())) else ((qbX _N ((_x2.1,_x2.2),(_x3.1,_x3.2),())).bind fun _y8=>(some (_y8.1,()))))) else (some (false,()))) else (some (false,()))))))))
noncomputable def qdL (_N : Nat) (_x : Dens qfQ) : Option qfL:=qgq _N _x.1 _x.2.1 _x.2.2.1
theorem qjo (_N : Nat) : SpecD Tryd.prog Gs 6 qfQ qfN (qdL _N):=mkSpD (fn:=Tryd.f6) (c:=qE Tryd.f6) (C:=qkM _N)
  (a:=.none)
  (by kernel_rfl) rfl (by kernel_rfl) (by kernel_rfl) ⟨rfl,by unfold TOk; kernel_rfl,qaA rfl rfl (List.forall_mem_cons.2 ⟨qnR _N,(List.forall_mem_cons.2 ⟨qkC _N,(List.forall_mem_nil _)⟩)⟩),qaz rfl rfl (List.forall_mem_nil _),rfl⟩ (fun _x=>by kernel_rfl)
open Rea
open Gh (Nd Ed qaT GrOk nsum)
theorem law_ReachApart (g : List Nd × List Ed) (a b : Int × List Int) (_h1 : wfS SS g) (_h2 : wfS SV a) (_h3 : wfS SV b) : ∃ N,qdL N (g,a,b,()) = some (true,()):=by
 obtain ⟨ns,es⟩:=g
 obtain ⟨N,hN⟩ : ∃ N : Nat,600000000 <= N:=⟨600000000,Nat.le_refl _⟩
 refine ⟨N,?_⟩
 simp only [qdL,qgq]
 rcases qwL (N:=N) (by omega) ns es with ⟨-,h2⟩ | ⟨h,P,hP,hC⟩
 ·obtain ⟨c1,e1,a1,a2⟩:=h2 (a.1,a.2) (b.1,b.2)
  obtain ⟨c2,e2,b1,-⟩:=h2 (b.1,b.2) (a.1,a.2)
  obtain ⟨c3,e3,d1,-⟩:=h2 (a.1,a.2) (a.1,a.2)
  simp only [a1,b1,d1,Option.bind_some]
  rw [bne_iff_ne.2 a2,cond_true]
 ·obtain ⟨c1,e1,a1,a2,a3⟩:=hC (a.1,a.2) (b.1,b.2)
  obtain ⟨c2,e2,b1,b2,b3⟩:=hC (b.1,b.2) (a.1,a.2)
  obtain ⟨c4,e4,f1,f2,f3⟩:=hC (a.1,a.2) (a.1,a.2)
  simp only [a1,b1,f1,Option.bind_some]
  by_cases q1 : e1 = 0
  case neg=>rw [bne_iff_ne.2 q1,cond_true]
  by_cases q2 : e2 = 0
  case neg=>rw [q1,bne_self_eq_false,cond_false,bne_iff_ne.2 q2,cond_true]
  obtain ⟨sa,sb⟩:=a2.1 q1
  have q4:=f2.2 ⟨sa,sa⟩
  have t4:=(f3 q4).2 (quw h hP sa)
  rw [q1,q2,q4,t4]
  simp only [bne_self_eq_false,cond_false,beq_self_eq_true,cond_true]
  cases e5 : c1 with
  | false=>rfl
  | true =>
   cases e6 : c2 with
   | false=>rfl
   | true =>
    have e:=qsL h hP sa sb ((a3 q1).1 e5) ((b3 q2).1 e6)
    have e7 : a.1 = b.1:=congrArg Prod.fst e
    have e8 : a.2 = b.2:=congrArg Prod.snd e
    have hs:=qwH (N:=N) (xs:=b.2) (by omega) (by have:=(qsb sb.tk).2; dsimp only at this; omega)
    simp only [Bool.not_true,cond_false,qbX,qgZ,e7,e8,beq_self_eq_true,cond_true,hs,Option.bind_some]
set_option maxRecDepth 100000 in
theorem lifted_ReachApart (os : Os) (started : os.Started) (H : Type) (enc : TypeId × Value -> H) :
  ReturnsInHanded {} Tryd.checked os 6 .any (fun w args=>(Rows.reachApartSpec.pre enc Tryd.prog Tryd.f6 [] false w args /\ laidMetH Tryd.prog Rows.reachApartRow.laid w) /\ sizedMet enc Tryd.prog Tryd.f6 (OpenSpec.ofChange Rows.reachApartSpec) false w args) (Rows.reachApartSpec.post enc Tryd.prog Tryd.f6 false true false false):=by
 refine returnsInHanded_of_change_and (C:=Tryd.checked) (X:=fun w _=>laidMetH Tryd.prog Rows.reachApartRow.laid w) (fun _ _ _ hh h=>h.of_heap hh) own started (by kernel_rfl) Tryd.func6
  (ChangeSpec.witness_shaped (enc:=enc) (C:=Tryd.checked) (os:=os) (X:=fun w _=>laidMetH Tryd.prog Rows.reachApartRow.laid w) false (World.doorLaid Tryd.prog 400 os) #[.agg #[.slice none 0 0,.slice none 0 0],.agg #[.int .i64 0,.slice none 0 0],.agg #[.int .i64 0,.slice none 0 0]] 8 rfl (World.shaped_of_RefB (by kernel_rfl) (by kernel_rfl)) (by kernel_rfl) (by kernel_rfl) (by kernel_rfl) (door_met os _)) ?_
 intro W base args ds gs before hval0 hW _ hsz0 hL _
 have hgw : GW Gs W:=gw_of hL
 have hval : ∀ (j : Nat) t v,Tryd.f6.params[j]? = some t -> args[j]? = some v -> Value.okWide Tryd.prog W .any base t v:=hval0
 have hW':=hW
 obtain ⟨p,q,hA0,hV,rfl,_,_⟩:=hW
 have hA : DataW.TrodAll enc Tryd.prog W 0 (fun _=>true) true Tryd.f6.params.toList args.toList ds p:=hA0
 rw [Tryd.params6] at hA hval
 obtain ⟨v0,vs0,d0,ds0,p0,q0,hargs,rfl,rfl,h0,r0⟩:=trodAll_cons hA
 obtain ⟨v1,vs1,d1,ds1,p1,q1,rfl,rfl,rfl,h1,r1⟩:=trodAll_cons r0
 obtain ⟨v2,vs2,d2,ds2,p2,q2,rfl,rfl,rfl,h2,r2⟩:=trodAll_cons r1
 obtain ⟨rfl,rfl,rfl⟩:=trodAll_nil r2
 obtain rfl : args = #[v0,v1,v2]:=by cases args; simp_all
 obtain ⟨rfl,rfl⟩:=trodVars_none hV
 have hall:=List.all_eq_true.1 hsz0
 clear hA0 hval0 hsz0
 simp only [List.append_nil] at hW'
 have hlt0 : ∀ x ∈ p0,x.block < W.heap.size:=fun x hx=>hW'.lt x (by simp [hx])
 have hlt1 : ∀ x ∈ p1,x.block < W.heap.size:=fun x hx=>hW'.lt x (by simp [hx])
 have hlt2 : ∀ x ∈ p2,x.block < W.heap.size:=fun x hx=>hW'.lt x (by simp [hx])
 obtain ⟨x0,g0,w0⟩:=qsn (k:=.dat SS) (by kernel_rfl) (hval 0 25 v0 rfl rfl) h0
 obtain ⟨x1,g1,w1⟩:=qsn (k:=.dat SV) (by kernel_rfl) (hval 1 52 v1 rfl rfl) h1
 obtain ⟨x2,g2,w2⟩:=qsn (k:=.dat SV) (by kernel_rfl) (hval 2 52 v2 rfl rfl) h2
 obtain ⟨N,hN⟩:=law_ReachApart x0 x1 x2 w0 w1 w2
 refine (qjo N (fun _=>False) W (x0,x1,x2,()) (true,()) [v0,v1,v2] (fun _ h=>h.elim) hgw ⟨v0,_,rfl,g0,⟨v1,_,rfl,g1,⟨v2,_,rfl,g2,rfl⟩⟩⟩ hN).mono ?_
 rintro e W' ⟨v,rfl,hg,hr⟩
 replace hg:=hg.old
 have hr : v = .bool true:=by simpa only [kvals,retV,Kd.val,Go.Abs.enc,RV] using hr
 subst hr
 exact ⟨_,rfl,_,_,_,[],p0 ++ (p1 ++ (p2 ++ [])),[],hW',(trodAll_cons_mk (shut_bool (show Tryd.prog.underlying 4 = some .bool by kernel_rfl) _) trodAll_mk0),(trodAll_cons_mk (Below.trod laidOut (by kernel_rfl) (of_decide_eq_true (by kernel_rfl)) h0 hg hlt0) (trodAll_cons_mk (Below.trod laidOut (by kernel_rfl) (of_decide_eq_true (by kernel_rfl)) h1 hg hlt1) (trodAll_cons_mk (Below.trod laidOut (by kernel_rfl) (of_decide_eq_true (by kernel_rfl)) h2 hg hlt2) trodAll_mk0))),rfl,hg.frame _,fun h=>by cases h⟩
theorem reachApart_holds : Rows.ReachApartSaid :=
 OpenClaim.holds_of_wide 6 Tryd.f6 rfl rfl rfl rfl rfl rfl rfl ⟨rfl,rfl,rfl,rfl,rfl⟩ rfl rfl rfl rfl rfl (by kernel_rfl) Tryd.func6 (by kernel_rfl)
  (of_decide_eq_true (by kernel_rfl)) (by unfold Func.isWrapper; first | (rw [if_pos (by decide +kernel)]; kernel_rfl) | (rw [if_neg (by decide +kernel)]; exact ⟨rfl,rfl⟩))
  (fun os started H enc _=>lifted_ReachApart os started H enc)
theorem reachApart_card : Rows.ReachApartCardSaid :=
 Claim7.holds_tied_plain_at .later [] [.data] true (true, "b049033100521c0328afe8a8273d62bdb84d2c9756645822752d68c43c86d84a") false reachApart_holds (fun _ h => by cases h) (by kernel_rfl) (fun _ h => by cases h) reachApart_row_tie rfl ⟨rfl, rfl⟩ (by kernel_rfl) rfl
  (fun f fn hf hfn=>by
   obtain rfl : f = 6 := Option.some.inj ((show Tryd.prog.funcNamed "watershed/watershedkeep.ReachApart" = some 6 by kernel_rfl).symm.trans hf) |>.symm
   obtain rfl : fn = Tryd.f6:=(Option.some.inj (Tryd.func6.symm.trans hfn)).symm
   exact ⟨by kernel_rfl,fun j t ht=>by
    have h3:=List.all_eq_true.1 (show (Tryd.f6.params.toList.all fun t=>!(Tryd.prog.wantsStandIn t)) = true by kernel_rfl) t (by rw [<- Array.getElem?_toList] at ht; exact List.mem_of_getElem? ht)
    have h4 : Tryd.prog.wantsStandIn t = false:=by simpa using h3
    exact h4⟩)
  (by kernel_rfl)
end Go.Proofs.YtgnnhemoocfclaaDoor
