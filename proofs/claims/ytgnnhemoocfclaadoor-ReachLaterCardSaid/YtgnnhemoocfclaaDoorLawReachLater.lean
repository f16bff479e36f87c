import Derived.Test.YtgnnhemoocfclaaDoorReaE
import Derived.Test.YtgnnhemoocfclaaDoorFrame
namespace Go.Proofs.YtgnnhemoocfclaaDoor
open Go Go.ChangeShapes Go.WideShapes Go.ChangeAt Go.WideMaps Go.WideElems Go.RowKit Go.Abs
abbrev SV : Sh:=.sl (.int .i64)
abbrev SS : Sh:=.pair (.sl (.pair (.int .i64) (.pair (.int .i64) (.pair (.int .i64) (.pair (.int .i64) (.int .i64)))))) (.sl (.pair (.int .i64) (.pair (.int .i64) (.int .i64))))
abbrev qcB : List Kd:=[.dat SV]
abbrev qcy : List Kd:=[.dat (.int .i64)]
abbrev qbi : Type:=Dens qcy
noncomputable def qlC (_N : Nat) : Ctx:={ T:=[(3,⟨.int .i64,1,8,some (.int .i64),[.int .i64 (0 : Int)],false,[]⟩),(38,⟨.slice 3,1,24,some SV,[.nil],false,[]⟩)],G:=findE [],I:=findI [],N:=_N,n:=26,fx:=[],fl:=0,gs:=Gs }
noncomputable def qep (_N : Nat) : Option qbi :=
 (some ((0 : Int),()))
noncomputable def qcX (_N : Nat) (_k4 : Unit -> Option qbi) (_v1 : List Int) (_v2 : Int) (_v3 : Int) (_kn5 : (List Int × Int) × Int -> Option qbi) : Option qbi :=
 (bif (decide (_v3 < _v2)) then (bif (decide (0 <= _v3) && decide (_v3 < (_v1.length : Int))) then (bif (decide ((nth (0 : Int) _v1 (_v3).toNat) < (0 : Int))) then (some ((2 : Int),())) else (bif (decide ((nth (0 : Int) _v1 (_v3).toNat) > (1048576 : Int))) then (some ((2 : Int),())) else (_kn5 ((_v1,_v2),(IntKind.i64.wrap (_v3 + (1 : Int))))))) else none) else (_k4 ()))
noncomputable def qhd (_N : Nat) (_x1 : List Int) : Option qbi :=
 (bif (decide ((_x1.length : Int) < (1 : Int))) then (some ((1 : Int),())) else (bif (decide ((_x1.length : Int) > (4 : Int))) then (some ((1 : Int),())) else (joinD (fun (_s : Unit)=>qep _N) fun _k4=>(loopE (fun (_c : List Int × Int) (_s : Int) _kn=>qcX _N _k4 _c.1 _c.2 _s _kn) _N (_x1,(_x1.length : Int)) (0 : Int)))))
noncomputable def qaZ (_N : Nat) (_x : Dens qcB) : Option qbi:=qhd _N _x.1
theorem qkn (_N : Nat) : SpecD Tryd.prog Gs 41 qcB qcy (qaZ _N):=mkSpD (fn:=Tryd.f41) (c:=qE Tryd.f41) (C:=qlC _N)
  (a:=.two .none (.two .none (.join 0 ⟨[],[]⟩ (.two .none (.one (.loop 0 ⟨[(13,.sl (.int .i64)),(14,.int .i64),(15,.int .i64)],[]⟩ [2] .none))) .none)))
  (by kernel_rfl) rfl (by kernel_rfl) (by kernel_rfl) ⟨rfl,by unfold TOk; kernel_rfl,qaA rfl rfl (List.forall_mem_nil _),qaz rfl rfl (List.forall_mem_nil _),rfl⟩ (fun _x=>by kernel_rfl)
theorem qkE (_N : Nat) : EntOk Tryd.prog Gs (mkP 41 qcB qcy (qaZ _N)):=entP ⟨Tryd.f41,qE Tryd.f41,by kernel_rfl,by kernel_rfl,rfl⟩ (by kernel_rfl) (qkn _N)
abbrev qdz : List Kd:=[.dat SV,.dat SV]
abbrev qdx : List Kd:=[.dat (.bool)]
abbrev qbM : Type:=Dens qdx
noncomputable def qnY (_N : Nat) : Ctx:={ T:=[(3,⟨.int .i64,1,8,some (.int .i64),[.int .i64 (0 : Int)],false,[]⟩),(38,⟨.slice 3,1,24,some SV,[.nil],false,[]⟩)],G:=findE [mkP 41 qcB qcy (qaZ _N)],I:=findI [],N:=_N,n:=36,fx:=[],fl:=0,gs:=Gs }
noncomputable def qfX (_N : Nat) : Option qbM :=
 (some (true,()))
noncomputable def qdR (_N : Nat) (_k8 : Unit -> Option qbM) (_v3 : List Int) (_v4 : List Int) (_v5 : Int) (_kn9 : (List Int × List Int) × Int -> Option qbM) : Option qbM :=
 (bif (decide (_v5 < (_v3.length : Int))) then (bif (decide (0 <= _v5) && decide (_v5 < (_v3.length : Int))) then (bif (decide (0 <= _v5) && decide (_v5 < (_v4.length : Int))) then (bif (decide ((nth (0 : Int) _v3 (_v5).toNat) > (nth (0 : Int) _v4 (_v5).toNat))) then (some (false,())) else (_kn9 ((_v3,_v4),(IntKind.i64.wrap (_v5 + (1 : Int)))))) else none) else none) else (_k8 ()))
noncomputable def qip (_N : Nat) (_x1 : List Int) (_x2 : List Int) : Option qbM :=
 (bif ((_x1.length : Int) != (_x2.length : Int)) then (some (false,())) else ((qaZ _N (_x1,())).bind fun _y6=>(bif (_y6.1 != (0 : Int)) then (some (false,())) else ((qaZ _N (_x2,())).bind fun _y7=>(bif (_y7.1 != (0 : Int)) then (some (false,())) else (joinD (fun (_s : Unit)=>qfX _N) fun _k8=>(loopE (fun (_c : List Int × List Int) (_s : Int) _kn=>qdR _N _k8 _c.1 _c.2 _s _kn) _N (_x1,_x2) (0 : Int))))))))
noncomputable def qbC (_N : Nat) (_x : Dens qdz) : Option qbM:=qip _N _x.1 _x.2.1
theorem qlP (_N : Nat) : SpecD Tryd.prog Gs 19 qdz qdx (qbC _N):=mkSpD (fn:=Tryd.f19) (c:=qE Tryd.f19) (C:=qnY _N)
  (a:=.two .none (.two .none (.join 0 ⟨[],[]⟩ (.two .none (.one (.loop 0 ⟨[(0,.sl (.int .i64)),(1,.sl (.int .i64)),(5,.int .i64)],[]⟩ [2] (.two .none (.two (.one (.two (.draw 0 [.pure,.pure,.pure,.pure,.pure,.pure,.pure,.pure,.pure]) .none)) .none))))) .none)))
  (by kernel_rfl) rfl (by kernel_rfl) (by kernel_rfl) ⟨rfl,by unfold TOk; kernel_rfl,qaA rfl rfl (List.forall_mem_cons.2 ⟨qkE _N,(List.forall_mem_nil _)⟩),qaz rfl rfl (List.forall_mem_nil _),rfl⟩ (fun _x=>by kernel_rfl)
theorem qmU (_N : Nat) : EntOk Tryd.prog Gs (mkP 19 qdz qdx (qbC _N)):=entP ⟨Tryd.f19,qE Tryd.f19,by kernel_rfl,by kernel_rfl,rfl⟩ (by kernel_rfl) (qlP _N)
abbrev qfT : List Kd:=[.dat SS,.dat (.pair (.int .i64) SV),.dat (.pair (.int .i64) SV),.dat SV,.dat SV]
abbrev qfQ : List Kd:=[.dat (.bool)]
abbrev qfO : Type:=Dens qfQ
noncomputable def qkO (_N : Nat) : Ctx:={ T:=[(3,⟨.int .i64,1,8,some (.int .i64),[.int .i64 (0 : Int)],false,[]⟩),(25,⟨.struct [(0,22),(1,23)],2,48,some SS,[.nil,.nil],false,[]⟩),(38,⟨.slice 3,1,24,some SV,[.nil],false,[]⟩),(52,⟨.struct [(0,3),(1,38)],2,32,some (.pair (.int .i64) SV),[.int .i64 (0 : Int),.nil],false,[]⟩)],G:=findE [mkP 17 qea qdU (qaC _N),mkP 19 qdz qdx (qbC _N)],I:=findI [],N:=_N,n:=72,fx:=[],fl:=0,gs:=Gs }
noncomputable def qgv (_N : Nat) (_x1 : List (Int × Int × Int × Int × Int) × List (Int × Int × Int)) (_x2 : Int × List Int) (_x3 : Int × List Int) (_x4 : List Int) (_x5 : List Int) : Option qfO :=
 ((qaC _N ((_x1.1,_x1.2),(_x2.1,_x2.2),(_x3.1,_x3.2),())).bind fun _y6=>((qaC _N ((_x1.1,_x1.2),(_x3.1,_x3.2),(_x3.1,_x3.2),())).bind fun _y7=>(bif (_y6.2.1 != (0 : Int)) then (some (true,())) else (bif (_y7.2.1 != (0 : Int)) then (some (true,())) else (bif (!_y7.1) then (some (false,())) else (bif (!_y6.1) then (some (true,())) else ((qbC _N (_x4,_x2.2,())).bind fun _y8=>(bif (!_y8.1) then (some (true,())) else ((qbC _N (_x3.2,_x5,())).bind fun _y9=>(bif (!_y9.1) then (some (true,())) else ((qaC _N ((_x1.1,_x1.2),(_x2.1,_x4),(_x3.1,_x5),())).bind fun _y10=>(bif (_y10.2.1 == (0 : Int)) then (some (_y10.1,())) else (some (false,()))))))))))))))
noncomputable def qdO (_N : Nat) (_x : Dens qfT) : Option qfO:=qgv _N _x.1 _x.2.1 _x.2.2.1 _x.2.2.2.1 _x.2.2.2.2.1
theorem qjp (_N : Nat) : SpecD Tryd.prog Gs 7 qfT qfQ (qdO _N):=mkSpD (fn:=Tryd.f7) (c:=qE Tryd.f7) (C:=qkO _N)
  (a:=.none)
  (by kernel_rfl) rfl (by kernel_rfl) (by kernel_rfl) ⟨rfl,by unfold TOk; kernel_rfl,qaA rfl rfl (List.forall_mem_cons.2 ⟨qnS _N,(List.forall_mem_cons.2 ⟨qmU _N,(List.forall_mem_nil _)⟩)⟩),qaz rfl rfl (List.forall_mem_nil _),rfl⟩ (fun _x=>by kernel_rfl)
open Rea
open Gh (Nd Ed qaT GrOk nsum)
theorem qsa {N : Nat} (hN : 200000000 <= N) (t : List Int) : ∃ e,qaZ N (t,()) = some (e,()) /\ (e = 0 ↔ tok t = true):=by
 simp only [qaZ,qhd]
 by_cases h0 : t.length < 1
 ·refine ⟨1,by rw [qA (by omega),cond_true],by simp [Rea.tok]; omega⟩
 rw [qJ (by omega),cond_false]
 by_cases h4 : 4 < t.length
 ·refine ⟨1,by rw [qA (by omega),cond_true],by simp [Rea.tok]; omega⟩
 rw [qJ (by omega),cond_false]
 simp only [joinD,loopE]
 have hbody : ∀ i,i < t.length -> ∀ kn,qcX N (fun _=>qep N) t (t.length : Int) (i : Int) (backE (t,(t.length : Int)) kn) = if 0 <= nth 0 t i /\ nth 0 t i <= 1048576 then kn ((i : Int) + 1) else some (2,()):=fun i hi kn=>by
  simp only [qcX,lt_d hi,ge0_d,Bool.and_self,cond_true,Int.toNat_natCast,qU,ix1 hi (by omega)]
  by_cases q1 : nth 0 t i < 0
  ·rw [qA q1,cond_true,if_neg (by omega)]
  ·rw [qJ q1,cond_false]
   by_cases q2 : nth 0 t i > 1048576
   ·rw [qA q2,cond_true,if_neg (by omega)]
   ·rw [qJ q2,cond_false,if_pos (by omega)]
 have htok : tok t = true ↔ ∀ i,i < t.length -> 0 <= nth 0 t i /\ nth 0 t i <= 1048576:=by
  refine ⟨fun h i _=>qoS h i,fun h=>?_⟩
  simp only [Rea.tok,Bool.and_eq_true,List.all_eq_true,decide_eq_true_eq]
  refine ⟨⟨by omega,by omega⟩,fun x hx=>?_⟩
  obtain ⟨i,hi,rfl⟩:=mem_nth (z:=(0 : Int)) hx
  exact h i hi
 by_cases hg : ∀ i,i < t.length -> 0 <= nth 0 t i /\ nth 0 t i <= 1048576
 ·refine ⟨0,qdH (n:=t.length) (by omega) (fun i hi kn=>by rw [hbody i hi,if_pos (hg i hi)]) (fun kn=>by simp only [qcX,qbR,cond_false,qep]) (by omega),by rw [htok]; exact ⟨fun _=>hg,fun _=>rfl⟩⟩
 ·refine ⟨2,qgt (n:=t.length) (by omega) (fun i=>¬ (0 <= nth 0 t i /\ nth 0 t i <= 1048576)) (fun i hi hb kn=>by rw [hbody i hi,if_neg hb]) (fun i hi hb kn=>by rw [hbody i hi,if_pos (Classical.not_not.1 hb)]) (by omega) ?_,by rw [htok]; exact ⟨fun h=>absurd h (by decide),fun h=>absurd h hg⟩⟩
  exact Classical.byContradiction fun hn=>hg fun i hi=>Classical.byContradiction fun hb=>hn ⟨i,hi,hb⟩
theorem qwI {N : Nat} (hN : 200000000 <= N) (a b : List Int) : ∃ c,qbC N (a,b,()) = some (c,()) /\ (c = true -> a.length = b.length /\ tok a = true /\ tok b = true /\ ∀ i,nth 0 a i <= nth 0 b i):=by
 obtain ⟨e1,h1,h2⟩:=qsa hN a
 obtain ⟨e2,h3,h4⟩:=qsa hN b
 simp only [qbC,qip]
 by_cases hl : a.length = b.length
 case neg=>exact ⟨false,by rw [bne_iff_ne.2 (by omega),cond_true],fun h=>by cases h⟩
 rw [show ((a.length : Int) != (b.length : Int)) = false by rw [hl]; exact bne_self_eq_false _,cond_false]
 simp only [h1,h3,Option.bind_some]
 by_cases q1 : e1 = 0
 case neg=>exact ⟨false,by rw [bne_iff_ne.2 q1,cond_true],fun h=>by cases h⟩
 by_cases q2 : e2 = 0
 case neg=>exact ⟨false,by rw [q1,bne_self_eq_false,cond_false,bne_iff_ne.2 q2,cond_true],fun h=>by cases h⟩
 subst q1
 subst q2
 simp only [bne_self_eq_false,cond_false,joinD,loopE]
 have ta:=h2.1 rfl
 have tb:=h4.1 rfl
 have l4:=(qsf ta).2
 have hbody : ∀ i,i < a.length -> ∀ kn,qdR N (fun _=>qfX N) a b (i : Int) (backE (a,b) kn) = if nth 0 a i > nth 0 b i then some (false,()) else kn ((i : Int) + 1):=fun i hi kn=>by
  simp only [qdR,lt_d hi,ge0_d,lt_d (show i < b.length by omega),Bool.and_self,cond_true,Int.toNat_natCast,qU,ix1 hi (by omega)]
  by_cases q : nth 0 a i > nth 0 b i
  ·rw [qA q,cond_true,if_pos q]
  ·rw [qJ q,cond_false,if_neg q]
 by_cases hg : ∀ i,i < a.length -> ¬ nth 0 a i > nth 0 b i
 ·refine ⟨true,qdH (n:=a.length) (by omega) (fun i hi kn=>by rw [hbody i hi,if_neg (hg i hi)]) (fun kn=>by simp only [qdR,qbR,cond_false,qfX]) (by omega),fun _=>⟨hl,ta,tb,fun i=>?_⟩⟩
  by_cases hi : i < a.length
  ·have:=hg i hi; omega
  ·rw [qiQ (by omega),qiQ (by omega)]; exact Int.le_refl _
 ·refine ⟨false,qgt (n:=a.length) (by omega) (fun i=>nth 0 a i > nth 0 b i) (fun i hi hb kn=>by rw [hbody i hi,if_pos hb]) (fun i hi hb kn=>by rw [hbody i hi,if_neg hb]) (by omega) ?_,fun h=>by cases h⟩
  exact Classical.byContradiction fun hn=>hg fun i hi hb=>hn ⟨i,hi,hb⟩
theorem law_ReachLater (g : List Nd × List Ed) (a b : Int × List Int) (t u : List Int) (_h1 : wfS SS g) (_h2 : wfS (.pair (.int .i64) SV) a) (_h3 : wfS (.pair (.int .i64) SV) b) (_h4 : wfS SV t) (_h5 : wfS SV u) : ∃ N,qdO N (g,a,b,t,u,()) = some (true,()):=by
 obtain ⟨ns,es⟩:=g
 obtain ⟨N,hN⟩ : ∃ N : Nat,600000000 <= N:=⟨600000000,Nat.le_refl _⟩
 refine ⟨N,?_⟩
 simp only [qdO,qgv]
 rcases qwM (N:=N) (by omega) ns es with ⟨-,h2⟩ | ⟨h,P,hP,hC⟩
 ·obtain ⟨c1,e1,a1,a2⟩:=h2 (a.1,a.2) (b.1,b.2)
  obtain ⟨c2,e2,b1,-⟩:=h2 (b.1,b.2) (b.1,b.2)
  simp only [a1,b1,Option.bind_some]
  rw [bne_iff_ne.2 a2,cond_true]
 ·obtain ⟨c1,e1,a1,a2,a3⟩:=hC (a.1,a.2) (b.1,b.2)
  obtain ⟨c2,e2,b1,b2,b3⟩:=hC (b.1,b.2) (b.1,b.2)
  obtain ⟨c4,e4,f1,f2,f3⟩:=hC (a.1,t) (b.1,u)
  obtain ⟨l1,g1,g2⟩:=qwI (N:=N) (by omega) t a.2
  obtain ⟨l2,g3,g4⟩:=qwI (N:=N) (by omega) b.2 u
  simp only [a1,b1,f1,g1,g3,Option.bind_some]
  by_cases q1 : e1 = 0
  case neg=>rw [bne_iff_ne.2 q1,cond_true]
  obtain ⟨sa,sb⟩:=a2.1 q1
  have q2:=b2.2 ⟨sb,sb⟩
  have t2:=(b3 q2).2 (quz h hP sb)
  rw [q1,q2,t2]
  simp only [bne_self_eq_false,cond_false,Bool.not_true]
  cases e5 : c1 with
  | false=>rfl
  | true =>
   cases e6 : l1 with
   | false=>rfl
   | true =>
    cases e7 : l2 with
    | false=>rfl
    | true =>
     obtain ⟨g5,g6,-,g7⟩:=g2 e6
     obtain ⟨g8,-,g9,g10⟩:=g4 e7
     have sa' : Sok ns (a.1,t):=⟨sa.a0,sa.an,g6,by have:=sa.len; dsimp only at this ⊢; omega⟩
     have sb' : Sok ns (b.1,u):=⟨sb.a0,sb.an,g9,by have:=sb.len; dsimp only at this ⊢; omega⟩
     have q4:=f2.2 ⟨sa',sb'⟩
     have t4:=(f3 q4).2 (qsO h hP sa sb sa' sb' rfl rfl g7 g10 ((a3 q1).1 e5))
     rw [q4,t4]; rfl
set_option maxRecDepth 100000 in
theorem lifted_ReachLater (os : Os) (started : os.Started) (H : Type) (enc : TypeId × Value -> H) :
  ReturnsInHanded {} Tryd.checked os 7 .any (fun w args=>(Rows.reachLaterSpec.pre enc Tryd.prog Tryd.f7 [] false w args /\ laidMetH Tryd.prog Rows.reachLaterRow.laid w) /\ sizedMet enc Tryd.prog Tryd.f7 (OpenSpec.ofChange Rows.reachLaterSpec) false w args) (Rows.reachLaterSpec.post enc Tryd.prog Tryd.f7 false true false false):=by
 refine returnsInHanded_of_change_and (C:=Tryd.checked) (X:=fun w _=>laidMetH Tryd.prog Rows.reachLaterRow.laid w) (fun _ _ _ hh h=>h.of_heap hh) own started (by kernel_rfl) Tryd.func7
  (ChangeSpec.witness_shaped (enc:=enc) (C:=Tryd.checked) (os:=os) (X:=fun w _=>laidMetH Tryd.prog Rows.reachLaterRow.laid w) false (World.doorLaid Tryd.prog 400 os) #[.agg #[.slice none 0 0,.slice none 0 0],.agg #[.int .i64 0,.slice none 0 0],.agg #[.int .i64 0,.slice none 0 0],.slice none 0 0,.slice none 0 0] 8 rfl (World.shaped_of_RefB (by kernel_rfl) (by kernel_rfl)) (by kernel_rfl) (by kernel_rfl) (by kernel_rfl) (door_met os _)) ?_
 intro W base args ds gs before hval0 hW _ hsz0 hL _
 have hgw : GW Gs W:=gw_of hL
 have hval : ∀ (j : Nat) t v,Tryd.f7.params[j]? = some t -> args[j]? = some v -> Value.okWide Tryd.prog W .any base t v:=hval0
 have hW':=hW
 obtain ⟨p,q,hA0,hV,rfl,_,_⟩:=hW
 have hA : DataW.TrodAll enc Tryd.prog W 0 (fun _=>true) true Tryd.f7.params.toList args.toList ds p:=hA0
 rw [Tryd.params7] at hA hval
 obtain ⟨v0,vs0,d0,ds0,p0,q0,hargs,rfl,rfl,h0,r0⟩:=trodAll_cons hA
 obtain ⟨v1,vs1,d1,ds1,p1,q1,rfl,rfl,rfl,h1,r1⟩:=trodAll_cons r0
 obtain ⟨v2,vs2,d2,ds2,p2,q2,rfl,rfl,rfl,h2,r2⟩:=trodAll_cons r1
 obtain ⟨v3,vs3,d3,ds3,p3,q3,rfl,rfl,rfl,h3,r3⟩:=trodAll_cons r2
 obtain ⟨v4,vs4,d4,ds4,p4,q4,rfl,rfl,rfl,h4,r4⟩:=trodAll_cons r3
 obtain ⟨rfl,rfl,rfl⟩:=trodAll_nil r4
 obtain rfl : args = #[v0,v1,v2,v3,v4]:=by cases args; simp_all
 obtain ⟨rfl,rfl⟩:=trodVars_none hV
 have hall:=List.all_eq_true.1 hsz0
 clear hA0 hval0 hsz0
 simp only [List.append_nil] at hW'
 have hlt0 : ∀ x ∈ p0,x.block < W.heap.size:=fun x hx=>hW'.lt x (by simp [hx])
 have hlt1 : ∀ x ∈ p1,x.block < W.heap.size:=fun x hx=>hW'.lt x (by simp [hx])
 have hlt2 : ∀ x ∈ p2,x.block < W.heap.size:=fun x hx=>hW'.lt x (by simp [hx])
 have hlt3 : ∀ x ∈ p3,x.block < W.heap.size:=fun x hx=>hW'.lt x (by simp [hx])
 have hlt4 : ∀ x ∈ p4,x.block < W.heap.size:=fun x hx=>hW'.lt x (by simp [hx])
 obtain ⟨x0,g0,w0⟩:=qmd (k:=.dat SS) (by kernel_rfl) (hval 0 25 v0 rfl rfl) h0
 obtain ⟨x1,g1,w1⟩:=qmd (k:=.dat (.pair (.int .i64) SV)) (by kernel_rfl) (hval 1 52 v1 rfl rfl) h1
 obtain ⟨x2,g2,w2⟩:=qmd (k:=.dat (.pair (.int .i64) SV)) (by kernel_rfl) (hval 2 52 v2 rfl rfl) h2
 obtain ⟨x3,g3,w3⟩:=qmd (k:=.dat SV) (by kernel_rfl) (hval 3 38 v3 rfl rfl) h3
 obtain ⟨x4,g4,w4⟩:=qmd (k:=.dat SV) (by kernel_rfl) (hval 4 38 v4 rfl rfl) h4
 obtain ⟨N,hN⟩:=law_ReachLater x0 x1 x2 x3 x4 w0 w1 w2 w3 w4
 refine (qjp N (fun _=>False) W (x0,x1,x2,x3,x4,()) (true,()) [v0,v1,v2,v3,v4] (fun _ h=>h.elim) hgw ⟨v0,_,rfl,g0,⟨v1,_,rfl,g1,⟨v2,_,rfl,g2,⟨v3,_,rfl,g3,⟨v4,_,rfl,g4,rfl⟩⟩⟩⟩⟩ hN).mono ?_
 rintro e W' ⟨v,rfl,hg,hr⟩
 replace hg:=hg.old
 have hr : v = .bool true:=by simpa only [kvals,retV,Kd.val,Go.Abs.enc,RV] using hr
 subst hr
 exact ⟨_,rfl,_,_,_,[],p0 ++ (p1 ++ (p2 ++ (p3 ++ (p4 ++ [])))),[],hW',(trodAll_cons_mk (shut_bool (show Tryd.prog.underlying 4 = some .bool by kernel_rfl) _) trodAll_mk0),(trodAll_cons_mk (Below.trod laidOut (by kernel_rfl) (of_decide_eq_true (by kernel_rfl)) h0 hg hlt0) (trodAll_cons_mk (Below.trod laidOut (by kernel_rfl) (of_decide_eq_true (by kernel_rfl)) h1 hg hlt1) (trodAll_cons_mk (Below.trod laidOut (by kernel_rfl) (of_decide_eq_true (by kernel_rfl)) h2 hg hlt2) (trodAll_cons_mk (Below.trod laidOut (by kernel_rfl) (of_decide_eq_true (by kernel_rfl)) h3 hg hlt3) (trodAll_cons_mk (Below.trod laidOut (by kernel_rfl) (of_decide_eq_true (by kernel_rfl)) h4 hg hlt4) trodAll_mk0))))),rfl,hg.frame _,fun h=>by cases h⟩
theorem reachLater_holds : Rows.ReachLaterSaid :=
 OpenClaim.holds_of_wide 7 Tryd.f7 rfl rfl rfl rfl rfl rfl rfl ⟨rfl,rfl,rfl,rfl,rfl⟩ rfl rfl rfl rfl rfl (by kernel_rfl) Tryd.func7 (by kernel_rfl)
  (of_decide_eq_true (by kernel_rfl)) (by unfold Func.isWrapper; first | (rw [if_pos (by decide +kernel)]; kernel_rfl) | (rw [if_neg (by decide +kernel)]; exact ⟨rfl,rfl⟩))
  (fun os started H enc _=>lifted_ReachLater os started H enc)
theorem reachLater_card : Rows.ReachLaterCardSaid :=
 Claim7.holds_tied_plain_at .later [] [.data] true (true, "b049033100521c0328afe8a8273d62bdb84d2c9756645822752d68c43c86d84a") false reachLater_holds (fun _ h => by cases h) (by kernel_rfl) (fun _ h => by cases h) reachLater_row_tie rfl ⟨rfl, rfl⟩ (by kernel_rfl) rfl
  (fun f fn hf hfn=>by
   obtain rfl : f = 7 := Option.some.inj ((show Tryd.prog.funcNamed "watershed/watershedkeep.ReachLater" = some 7 by kernel_rfl).symm.trans hf) |>.symm
   obtain rfl : fn = Tryd.f7:=(Option.some.inj (Tryd.func7.symm.trans hfn)).symm
   exact ⟨by kernel_rfl,fun j t ht=>by
    have h3:=List.all_eq_true.1 (show (Tryd.f7.params.toList.all fun t=>!(Tryd.prog.wantsStandIn t)) = true by kernel_rfl) t (by rw [<- Array.getElem?_toList] at ht; exact List.mem_of_getElem? ht)
    have h4 : Tryd.prog.wantsStandIn t = false:=by simpa using h3
    exact h4⟩)
  (by kernel_rfl)
end Go.Proofs.YtgnnhemoocfclaaDoor
