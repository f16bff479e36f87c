import Derived.Test.YtgnnhemoocfclaaDoorReaL
import Derived.Test.YtgnnhemoocfclaaDoorFrame
namespace Go.Proofs.YtgnnhemoocfclaaDoor
open Go Go.ChangeShapes Go.WideShapes Go.ChangeAt Go.WideMaps Go.WideElems Go.RowKit Go.Abs
abbrev SN : Sh:=.sl (.int .i64)
abbrev SK : Sh:=.pair (.int .i64) (.pair (.int .i64) (.sl (.int .i64)))
abbrev SI : Sh:=.pair (.int .i64) (.pair (.int .i64) (.int .i64))
abbrev Yp : Type:=Int × Int × Int
abbrev Yo : Type:=Int × Int × Int × Int × Int
abbrev qed : List Kd:=[.dat (.pair (.sl (.pair (.int .i64) (.pair (.int .i64) SI))) (.sl SI)),.dat (.int .i64),.dat SN]
abbrev qdW : List Kd:=[.dat SK,.dat (.int .i64),.dat (.bool)]
abbrev qbW : Type:=Dens qdW
noncomputable def qqq (_N : Nat) : Ctx:={ T:=[(3,⟨.int .i64,1,8,some (.int .i64),[.int .i64 (0 : Int)],false,[]⟩),(22,⟨.slice 37,1,24,some (.sl (.pair (.int .i64) (.pair (.int .i64) SI))),[.nil],false,[]⟩),(23,⟨.slice 42,1,24,some (.sl SI),[.nil],false,[]⟩),(25,⟨.struct [(0,22),(1,23)],2,48,some (.pair (.sl (.pair (.int .i64) (.pair (.int .i64) SI))) (.sl SI)),[.nil,.nil],false,[]⟩),(37,⟨.struct [(0,3),(1,3),(2,35)],5,40,some (.pair (.int .i64) (.pair (.int .i64) SI)),[.int .i64 (0 : Int),.int .i64 (0 : Int),.int .i64 (0 : Int),.int .i64 (0 : Int),.int .i64 (0 : Int)],true,[]⟩),(38,⟨.slice 3,1,24,some SN,[.nil],false,[]⟩),(40,⟨.struct [(0,3),(1,3),(2,38)],3,40,some SK,[.int .i64 (0 : Int),.int .i64 (0 : Int),.nil],false,[]⟩),(42,⟨.struct [(0,3),(1,3),(2,3)],3,24,some SI,[.int .i64 (0 : Int),.int .i64 (0 : Int),.int .i64 (0 : Int)],true,[]⟩)],G:=findE [mkQ 13 qeo qel (qcq _N),mkQ 14 qcn qcm (qbc _N)],I:=findI [],N:=_N,n:=87,fx:=[],fl:=0,gs:=Gs }
noncomputable def qjJ (_N : Nat) (_v18 : Int) (_v23 : Int) (_v24 : Int) (_v25 : List Int) : Option qbW :=
 (some ((_v23,(_v24,_v25)),_v18,true,()))
noncomputable def qgW (_N : Nat) (_k26 : (Int × (List Yo) × (List Yp) × Int × Int × Int × Int × List Int) -> Option qbW) (_v2 : List Int) (_v3 : Int) (_v5 : List Yo) (_v6 : List Yp) (_v7 : Int) (_v8 : Int) (_v1 : Int) (_v4 : Int) (_v9 : Int) (_v10 : Int) (_v13 : List Int) (_kn27 : (List Int × Int × (List Yo) × (List Yp) × Int × Int) × (Int × Int × Int × Int × List Int) -> Option qbW) : Option qbW :=
 (bif (decide (_v4 < _v3)) then (bif (decide (0 <= _v4) && decide (_v4 < (_v2.length : Int))) then (bif (decide ((nth (0 : Int) _v2 (_v4).toNat) < (0 : Int))) then (some (((0 : Int),((0 : Int),[])),(0 : Int),false,())) else (bif (decide ((nth (0 : Int) _v2 (_v4).toNat) >= (_v6.length : Int))) then (some (((0 : Int),((0 : Int),[])),(0 : Int),false,())) else (bif (decide (0 <= (nth (0 : Int) _v2 (_v4).toNat)) && decide ((nth (0 : Int) _v2 (_v4).toNat) < (_v6.length : Int))) then (bif (((nth ((0 : Int),((0 : Int),(0 : Int))) _v6 (nth (0 : Int) _v2 (_v4).toNat).toNat).1) != _v1) then (some (((0 : Int),((0 : Int),[])),(0 : Int),false,())) else (bif (decide (0 <= _v1) && decide (_v1 < (_v5.length : Int))) then ((qcq _N (((nth ((0 : Int),((0 : Int),((0 : Int),((0 : Int),(0 : Int))))) _v5 (_v1).toNat).1,(((nth ((0 : Int),((0 : Int),((0 : Int),((0 : Int),(0 : Int))))) _v5 (_v1).toNat).2).1,((((nth ((0 : Int),((0 : Int),((0 : Int),((0 : Int),(0 : Int))))) _v5 (_v1).toNat).2).2).1,(((((nth ((0 : Int),((0 : Int),((0 : Int),((0 : Int),(0 : Int))))) _v5 (_v1).toNat).2).2).2).1,((((nth ((0 : Int),((0 : Int),((0 : Int),((0 : Int),(0 : Int))))) _v5 (_v1).toNat).2).2).2).2)))),())).bind fun _y28=>(bif (_y28.2.1 != (0 : Int)) then (some (((0 : Int),((0 : Int),[])),(0 : Int),false,())) else ((qbc _N ((_v9,(_v10,_v13)),(_y28.1.1,(_y28.1.2.1,_y28.1.2.2)),())).bind fun _y29=>(bif (_y29.2.1 != (0 : Int)) then (some (((0 : Int),((0 : Int),[])),(0 : Int),false,())) else (bif (decide (0 <= (nth (0 : Int) _v2 (_v4).toNat)) && decide ((nth (0 : Int) _v2 (_v4).toNat) < (_v6.length : Int))) then (_kn27 ((_v2,_v3,_v5,_v6,_v7,_v8),(((nth ((0 : Int),((0 : Int),(0 : Int))) _v6 (nth (0 : Int) _v2 (_v4).toNat).toNat).2).1,(IntKind.i64.wrap (_v4 + (1 : Int))),_y29.1.1,_y29.1.2.1,_y29.1.2.2))) else none))))) else none)) else none))) else none) else (_k26 (_v1,_v5,_v6,_v7,_v8,_v9,_v10,_v13)))
noncomputable def qjI (_N : Nat) (_x1 : List Yo × List Yp) (_x2 : Int) (_x3 : List Int) : Option qbW :=
 (bif (decide (_x2 < (0 : Int))) then (some (((0 : Int),((0 : Int),[])),(0 : Int),false,())) else (bif (decide (_x2 >= (_x1.1.length : Int))) then (some (((0 : Int),((0 : Int),[])),(0 : Int),false,())) else (bif (decide (0 <= _x2) && decide (_x2 < (_x1.1.length : Int))) then (joinD (fun (_s : Int × (List Yo) × (List Yp) × Int × Int × Int × Int × List Int)=>qjJ _N _s.1 _s.2.2.2.2.2.1 _s.2.2.2.2.2.2.1 _s.2.2.2.2.2.2.2) fun _k26=>(loopE (fun (_c : List Int × Int × (List Yo) × (List Yp) × Int × Int) (_s : Int × Int × Int × Int × List Int) _kn=>qgW _N _k26 _c.1 _c.2.1 _c.2.2.1 _c.2.2.2.1 _c.2.2.2.2.1 _c.2.2.2.2.2 _s.1 _s.2.1 _s.2.2.1 _s.2.2.2.1 _s.2.2.2.2 _kn) _N (_x3,(_x3.length : Int),_x1.1,_x1.2,(0 : Int),(0 : Int)) (_x2,(0 : Int),((nth ((0 : Int),((0 : Int),((0 : Int),((0 : Int),(0 : Int))))) _x1.1 (_x2).toNat).2).1,(0 : Int),[]))) else none)))
noncomputable def qcJ (_N : Nat) (_x : Dens qed) : Option qbW:=qjI _N _x.1 _x.2.1 _x.2.2.1
theorem qnG (_N : Nat) : SpecD Tryd.prog Gs 16 qed qdW (qcJ _N):=mkSpD (fn:=Tryd.f16) (c:=qF Tryd.f16) (C:=qqq _N)
  (a:=.two .none (.two .none (.two .none (.join 3 ⟨[(1,.int .i64),(6,.ptr 1 0),(9,.ptr 2 0)],[.cells [.sl (.pair (.int .i64) (.pair (.int .i64) SI)),.sl SI],.cells [.int .i64,.int .i64,.nil],.cells [.int .i64,.int .i64,.sl (.int .i64)]]⟩ (.two .none (.one (.nilc 2 2 (.int .i64) (.loop 3 ⟨[(1,.int .i64),(3,.ptr 0 0),(6,.ptr 1 0),(9,.ptr 2 0),(31,.sl (.int .i64)),(32,.int .i64),(33,.int .i64)],[.cells [.sl (.pair (.int .i64) (.pair (.int .i64) SI)),.sl SI],.cells [.int .i64,.int .i64,.nil],.cells [.int .i64,.int .i64,.sl (.int .i64)]]⟩ [0,3,8,9,10] .none)))) .none))))
  (by kernel_rfl) rfl (by kernel_rfl) (by kernel_rfl) ⟨rfl,by unfold TOk; kernel_rfl,qaz rfl rfl (List.forall_mem_cons.2 ⟨qjv _N,(List.forall_mem_cons.2 ⟨qhr _N,(List.forall_mem_nil _)⟩)⟩),qay rfl rfl (List.forall_mem_nil _),rfl⟩ (fun _x=>by kernel_rfl)
theorem qmj (_N : Nat) : EntOk Tryd.prog Gs (mkQ 16 qed qdW (qcJ _N)):=entQ ⟨Tryd.f16,qF Tryd.f16,by kernel_rfl,by kernel_rfl,rfl⟩ (qnG _N)
abbrev qfY : List Kd:=[.dat (.pair (.sl (.pair (.int .i64) (.pair (.int .i64) SI))) (.sl SI)),.dat (.int .i64),.dat SN]
abbrev qfV : List Kd:=[.dat (.bool)]
abbrev qfT : Type:=Dens qfV
noncomputable def qkM (_N : Nat) : Ctx:={ T:=[(22,⟨.slice 37,1,24,some (.sl (.pair (.int .i64) (.pair (.int .i64) SI))),[.nil],false,[]⟩),(25,⟨.struct [(0,22),(1,23)],2,48,some (.pair (.sl (.pair (.int .i64) (.pair (.int .i64) SI))) (.sl SI)),[.nil,.nil],false,[]⟩),(26,⟨.slice 33,1,24,some (.sl (.sl SK)),[.nil],false,[]⟩),(27,⟨.int .i64,1,8,some (.int .i64),[.int .i64 (0 : Int)],false,[]⟩),(29,⟨.struct [(0,27),(1,3)],2,16,some (.pair (.int .i64) (.int .i64)),[.int .i64 (0 : Int),.int .i64 (0 : Int)],true,[]⟩),(33,⟨.slice 40,1,24,some (.sl SK),[.nil],false,[]⟩),(40,⟨.struct [(0,3),(1,3),(2,38)],3,40,some SK,[.int .i64 (0 : Int),.int .i64 (0 : Int),.nil],false,[]⟩)],G:=findE [mkQ 11 qec qdV (qbt _N),mkP 12 qcE qcA (qbn _N),mkQ 16 qed qdW (qcJ _N),mkP 15 qeC qeA (qdv _N)],I:=findI [],N:=_N,n:=65,fx:=[],fl:=0,gs:=Gs }
noncomputable def qgB (_N : Nat) (_x1 : List Yo × List Yp) (_x2 : Int) (_x3 : List Int) : Option qfT :=
 ((qbt _N ((_x1.1,_x1.2),())).bind fun _y5=>((qbn _N ((_x1.1,_x1.2),())).bind fun _y6=>(bif (_y6.1.1 != (0 : Int)) then (some ((_y5.2.1.1 != (0 : Int)),())) else ((qcJ _N ((_x1.1,_x1.2),_x2,_x3,())).bind fun _y7=>(bif (!_y7.2.2.1) then (some (true,())) else (bif (_y5.2.1.1 == (0 : Int)) then (bif ((_y5.1.length : Int) == (IntKind.i64.wrap ((_x1.1.length : Int) * (_x1.1.length : Int)))) then (bif (decide (0 <= (IntKind.i64.wrap ((IntKind.i64.wrap (_x2 * (_x1.1.length : Int))) + _y7.2.1))) && decide ((IntKind.i64.wrap ((IntKind.i64.wrap (_x2 * (_x1.1.length : Int))) + _y7.2.1)) < (_y5.1.length : Int))) then ((qdv _N ((nth ([]) _y5.1 (IntKind.i64.wrap ((IntKind.i64.wrap (_x2 * (_x1.1.length : Int))) + _y7.2.1)).toNat),(_y7.1.1,(_y7.1.2.1,_y7.1.2.2)),())).bind fun _y8=>(some (_y8.1,()))) else none) else (some (false,()))) else (some (false,()))))))))
noncomputable def qdQ (_N : Nat) (_x : Dens qfY) : Option qfT:=qgB _N _x.1 _x.2.1 _x.2.2.1
theorem qjn (_N : Nat) : SpecD Tryd.prog Gs 4 qfY qfV (qdQ _N):=mkSpD (fn:=Tryd.f4) (c:=qF Tryd.f4) (C:=qkM _N)
  (a:=.two .none (.two .none (.two .none (.two .none (.two (.draw 0 (.pure :: .pure :: .pure :: .pure :: .rd [1] :: .pure :: .pure :: .pure :: .pure :: .pure :: .rd [0] :: .pure :: .pure :: .rd [0] :: .pure :: .pure :: .pure :: .pure :: .pure :: .pure :: .pure :: .pure :: .rd [0] :: .pure :: .pure :: .pure :: .pure :: .pure :: .pure :: .rd [2] :: .pure :: .pure :: .pure :: .pure :: [])) .none)))))
  (by kernel_rfl) rfl (by kernel_rfl) (by kernel_rfl) ⟨rfl,by unfold TOk; kernel_rfl,qaz rfl rfl (List.forall_mem_cons.2 ⟨qmi _N,(List.forall_mem_cons.2 ⟨qkB _N,(List.forall_mem_cons.2 ⟨qmj _N,(List.forall_mem_cons.2 ⟨qpX _N,(List.forall_mem_nil _)⟩)⟩)⟩)⟩),qay rfl rfl (List.forall_mem_nil _),rfl⟩ (fun _x=>by kernel_rfl)
open Rea
open Gh (Nd Ed qan GrOk nsum)
open Go.Smy (qaR thenS)
theorem quX {N : Nat} (hN : 200000000 <= N) {ns : List Nd} {es : List Ed} (h : GrOk ns es) (a : Int) (l : List Int) (hl : l.length < N) (hl2 : l.length <= 9223372036854775807) :
  ∃ s b ok,qcJ N ((ns,es),a,l,()) = some (s,b,ok,()) /\ (ok = true -> 0 <= a /\ a < ns.length /\ Rea.Way ns es a b s):=by
 simp only [qcJ,qjI]
 by_cases h0 : a < 0
 ·exact ⟨_,_,_,by rw [qp h0,cond_true],fun h=>by cases h⟩
 by_cases hn : a >= ns.length
 ·exact ⟨_,_,_,by rw [ql h0,qp hn,cond_true,cond_false],fun h=>by cases h⟩
 rw [ql h0,ql hn,cond_false,cond_false,qp (show (0 : Int) <= a by omega),qp (show a < (ns.length : Int) by omega),Bool.and_self,cond_true]
 simp only [joinD,loopE]
 refine qow (fun st=>Rea.Way ns es a st.1 st.2.2 /\ ∃ i : Nat,st.2.1 = (i : Int) /\ i <= l.length) (fun st=>l.length - st.2.1.toNat)
  (fun o=>∃ s b ok,o = some (s,b,ok,()) /\ (ok = true -> 0 <= a /\ a < ns.length /\ Rea.Way ns es a b s)) ?_ N _ ⟨.nil,0,rfl,Nat.zero_le _⟩ (by simp; omega)
 rintro ⟨f,_,s⟩ ⟨hw,i,rfl,hi⟩ kn hkn
 dsimp only at hw hkn ⊢
 have fit:=hw.fit h (by omega) (by omega)
 by_cases hlt : i < l.length
 ·simp only [qgW,lt_d hlt,ge0_d,Bool.and_self,cond_true,Int.toNat_natCast]
  by_cases h1 : nth 0 l i < 0
  ·exact ⟨_,_,_,by rw [qp h1,cond_true],fun h=>by cases h⟩
  by_cases h2 : nth 0 l i >= es.length
  ·exact ⟨_,_,_,by rw [ql h1,qp h2,cond_true,cond_false],fun h=>by cases h⟩
  rw [ql h1,ql h2,cond_false,cond_false,qp (show (0 : Int) <= nth 0 l i by omega),qp (show nth 0 l i < (es.length : Int) by omega),Bool.and_self,cond_true]
  by_cases h3 : (nth Gh.z3 es (nth 0 l i).toNat).1 = f
  case neg=>exact ⟨_,_,_,by rw [bne_iff_ne.2 h3,cond_true],fun h=>by cases h⟩
  rw [h3,bne_self_eq_false,cond_false,qp fit.b0,qp fit.bn,Bool.and_self,cond_true]
  have hsum:=qxZ N (qpy h fit.b0 fit.bn)
  have hes : (s.1,s.2.1,s.2.2) = s:=rfl
  have hq3 : ((nsum (nth Gh.z5 ns f.toNat)).1,(nsum (nth Gh.z5 ns f.toNat)).2.1,(nsum (nth Gh.z5 ns f.toNat)).2.2) = qn ns f:=rfl
  simp only [Gh.nd_eta,hsum,Option.bind_some,bne_self_eq_false,cond_false,hq3,hes]
  rw [qwK hN s (qn ns f)]
  by_cases h4 : qaR (sm s) (sm (qn ns f)) = 0
  ·rw [if_pos h4]
   simp only [Option.bind_some,bne_self_eq_false,cond_false,qE]
   rw [w64 (show -9223372036854775808 <= (i : Int) + 1 by omega) (show (i : Int) + 1 <= 9223372036854775807 by omega)]
   refine hkn _ ⟨?_,i + 1,rfl,hlt⟩ (by simp; omega)
   exact Rea.Way.step hw (qbk (by omega)) h3 h4
  ·rw [if_neg h4]
   simp only [Option.bind_some]
   exact ⟨_,_,_,by rw [bne_iff_ne.2 h4,cond_true],fun h=>by cases h⟩
 ·obtain rfl : i = l.length:=by omega
  simp only [qgW,qaD,cond_false,qjJ]
  exact ⟨_,_,_,rfl,fun _=>⟨by omega,by omega,hw⟩⟩
theorem law_ReachWalks (g : List Nd × List Ed) (a : Int) (l : List Int) (_h1 : wfS (.pair (.sl (.pair (.int .i64) (.pair (.int .i64) SI))) (.sl SI)) g) (_h2 : wfS (.int .i64) a) (hl : wfS SN l) : ∃ N,qdQ N (g,a,l,()) = some (true,()):=by
 obtain ⟨ns,es⟩:=g
 have hl2 : l.length <= 9223372036854775807:=hl.1
 refine ⟨500000001 + l.length,?_⟩
 generalize hNN : 500000001 + l.length = N
 obtain ⟨c,p,e1,e2⟩:=Gh.GraphCheck_eq (N:=N) (by omega) ns es
 simp only [qdQ,qgB]
 rcases qxK (N:=N) (by omega) ns es with ⟨c',p',h1,h2,h3⟩ | ⟨h,P,hP,h2⟩
 ·simp only [h2,e1,Option.bind_some]
  rw [bne_iff_ne.2 (fun hc=>h3 (e2.1 hc)),cond_true,bne_iff_ne.2 h1]
 ·have hc:=e2.2 h
  subst hc
  have hn:=h.n12
  obtain ⟨s,b,ok,e3,e4⟩:=quX (N:=N) (by omega) h a l (by omega) hl2
  simp only [h2,e1,Option.bind_some,bne_self_eq_false,cond_false,e3]
  cases ok with
  | false=>rfl
  | true =>
   obtain ⟨a0,an,hw⟩:=e4 rfl
   have fit:=hw.fit h a0 an
   have b0:=fit.b0
   have bn:=fit.bn
   have hm1 : ns.length * ns.length <= 12 * 12:=Nat.mul_le_mul hn hn
   have hmc : (ns.length : Int) * (ns.length : Int) = ((ns.length * ns.length : Nat) : Int):=by rw [Int.natCast_mul]
   have hm0 : 0 <= a * (ns.length : Int):=Int.mul_nonneg a0 (by omega)
   have hm2 : a * (ns.length : Int) <= 12 * 12:=Int.mul_le_mul (by omega) (by omega) (by omega) (by omega)
   have hw1 : IntKind.i64.wrap ((ns.length : Int) * (ns.length : Int)) = (P.length : Int):=by rw [hmc,hP.pn]; exact w64 (by omega) (by omega)
   have hw2 : IntKind.i64.wrap (IntKind.i64.wrap (a * (ns.length : Int)) + b) = ((a.toNat * ns.length + b.toNat : Nat) : Int):=by
    rw [w64 (show -9223372036854775808 <= a * (ns.length : Int) by omega) (by omega),w64 (by omega) (by omega),Int.natCast_add,Int.natCast_mul,show ((a.toNat : Nat) : Int) = a by omega,show ((b.toNat : Nat) : Int) = b by omega]
   have hlt : a.toNat * ns.length + b.toNat < P.length:=by rw [hP.pn]; exact ix_lt (by omega) (by omega)
   have hrl:=hP.len (a.toNat * ns.length + b.toNat)
   obtain ⟨t,e5,e6⟩:=qxs (N:=N) (by omega) (l:=rw_ ns.length P a b) (Nat.le_trans hrl (by decide)) s
   have ht : t = true:=e6.2 (hP.full a b a0 an s hw)
   subst ht
   have hes : (s.1,s.2.1,s.2.2) = s:=rfl
   simp only [Bool.not_true,cond_false,beq_self_eq_true,cond_true,hw1,hw2,ge0_d,lt_d hlt,Bool.and_self,Int.toNat_natCast,hes,e5,Option.bind_some]
set_option maxRecDepth 100000 in
theorem lifted_ReachWalks (os : Os) (started : os.Started) (H : Type) (enc : TypeId × Value -> H) :
  ReturnsInHanded {} Tryd.checked os 4 .any (fun w args=>(Rows.reachWalksSpec.pre enc Tryd.prog Tryd.f4 [] false w args /\ laidMetH Tryd.prog Rows.reachWalksRow.laid w) /\ sizedMet enc Tryd.prog Tryd.f4 (OpenSpec.ofChange Rows.reachWalksSpec) false w args) (Rows.reachWalksSpec.post enc Tryd.prog Tryd.f4 false true false false):=by
 refine returnsInHanded_of_change_and (C:=Tryd.checked) (X:=fun w _=>laidMetH Tryd.prog Rows.reachWalksRow.laid w) (fun _ _ _ hh h=>h.of_heap hh) own started (by kernel_rfl) Tryd.func4
  (ChangeSpec.witness_shaped (enc:=enc) (C:=Tryd.checked) (os:=os) (X:=fun w _=>laidMetH Tryd.prog Rows.reachWalksRow.laid w) false (World.doorLaid Tryd.prog 400 os) #[.agg #[.slice none 0 0,.slice none 0 0],.int .i64 0,.slice none 0 0] 8 rfl (World.shaped_of_RefB (by kernel_rfl) (by kernel_rfl)) (by kernel_rfl) (by kernel_rfl) (by kernel_rfl) (door_met os _)) ?_
 intro W base args ds gs before hval0 hW _ hsz0 hL _
 have hgw : GW Gs W:=gw_of hL
 have hval : ∀ (j : Nat) t v,Tryd.f4.params[j]? = some t -> args[j]? = some v -> Value.okWide Tryd.prog W .any base t v:=hval0
 have hW':=hW
 obtain ⟨p,q,hA0,hV,rfl,_,_⟩:=hW
 have hA : DataW.TrodAll enc Tryd.prog W 0 (fun _=>true) true Tryd.f4.params.toList args.toList ds p:=hA0
 rw [Tryd.params4] at hA hval
 obtain ⟨v0,vs0,d0,ds0,p0,q0,hargs,rfl,rfl,h0,r0⟩:=trodAll_cons hA
 obtain ⟨v1,vs1,d1,ds1,p1,q1,rfl,rfl,rfl,h1,r1⟩:=trodAll_cons r0
 obtain ⟨v2,vs2,d2,ds2,p2,q2,rfl,rfl,rfl,h2,r2⟩:=trodAll_cons r1
 obtain ⟨rfl,rfl,rfl⟩:=trodAll_nil r2
 obtain rfl : args = #[v0,v1,v2]:=by cases args; simp_all
 obtain ⟨rfl,rfl⟩:=trodVars_none hV
 have hall:=List.all_eq_true.1 hsz0
 clear hA0 hval0 hsz0
 simp only [List.append_nil] at hW'
 have hlt0 : ∀ x ∈ p0,x.block < W.heap.size:=fun x hx=>hW'.lt x (by simp [hx])
 have hlt1 : ∀ x ∈ p1,x.block < W.heap.size:=fun x hx=>hW'.lt x (by simp [hx])
 have hlt2 : ∀ x ∈ p2,x.block < W.heap.size:=fun x hx=>hW'.lt x (by simp [hx])
 obtain ⟨x0,g0,w0⟩:=qsz (k:=.dat (.pair (.sl (.pair (.int .i64) (.pair (.int .i64) SI))) (.sl SI))) (by kernel_rfl) (hval 0 25 v0 rfl rfl) h0
 obtain ⟨x1,g1,w1⟩:=qsz (k:=.dat (.int .i64)) (by kernel_rfl) (hval 1 3 v1 rfl rfl) h1
 obtain ⟨x2,g2,w2⟩:=qsz (k:=.dat SN) (by kernel_rfl) (hval 2 38 v2 rfl rfl) h2
 obtain ⟨N,hN⟩:=law_ReachWalks x0 x1 x2 w0 w1 w2
 refine (qjn N (fun _=>False) W (x0,x1,x2,()) (true,()) [v0,v1,v2] (fun _ h=>h.elim) hgw ⟨v0,_,rfl,g0,⟨v1,_,rfl,g1,⟨v2,_,rfl,g2,rfl⟩⟩⟩ hN).mono ?_
 rintro e W' ⟨v,rfl,hg,hr⟩
 replace hg:=hg.old
 have hr : v = .bool true:=by simpa only [kvals,retV,Kd.val,Go.Abs.enc,RV] using hr
 subst hr
 exact ⟨_,rfl,_,_,_,[],p0 ++ (p1 ++ (p2 ++ [])),[],hW',(trodAll_cons_mk (shut_bool (show Tryd.prog.underlying 4 = some .bool by kernel_rfl) _) trodAll_mk0),(trodAll_cons_mk (Below.trod laidOut (by kernel_rfl) (of_decide_eq_true (by kernel_rfl)) h0 hg hlt0) (trodAll_cons_mk (Below.trod laidOut (by kernel_rfl) (of_decide_eq_true (by kernel_rfl)) h1 hg hlt1) (trodAll_cons_mk (Below.trod laidOut (by kernel_rfl) (of_decide_eq_true (by kernel_rfl)) h2 hg hlt2) trodAll_mk0))),rfl,hg.frame _,fun h=>by cases h⟩
theorem reachWalks_holds : Rows.ReachWalksSaid :=
 OpenClaim.holds_of_wide 4 Tryd.f4 rfl rfl rfl rfl rfl rfl rfl ⟨rfl,rfl,rfl,rfl,rfl⟩ rfl rfl rfl rfl rfl (by kernel_rfl) Tryd.func4 (by kernel_rfl)
  (of_decide_eq_true (by kernel_rfl)) (by unfold Func.isWrapper; first | (rw [if_pos (by decide +kernel)]; kernel_rfl) | (rw [if_neg (by decide +kernel)]; exact ⟨rfl,rfl⟩))
  (fun os started H enc _=>lifted_ReachWalks os started H enc)
theorem reachWalks_card : Rows.ReachWalksCardSaid :=
 Claim7.holds_tied_plain_at .later [] [.data] true (true, "b049033100521c0328afe8a8273d62bdb84d2c9756645822752d68c43c86d84a") false reachWalks_holds (fun _ h => by cases h) (by kernel_rfl) (fun _ h => by cases h) reachWalks_row_tie rfl ⟨rfl, rfl⟩ (by kernel_rfl) rfl
  (fun f fn hf hfn=>by
   obtain rfl : f = 4 := Option.some.inj ((show Tryd.prog.funcNamed "watershed/watershedkeep.ReachWalks" = some 4 by kernel_rfl).symm.trans hf) |>.symm
   obtain rfl : fn = Tryd.f4:=(Option.some.inj (Tryd.func4.symm.trans hfn)).symm
   exact ⟨by kernel_rfl,fun j t ht=>by
    have h3:=List.all_eq_true.1 (show (Tryd.f4.params.toList.all fun t=>!(Tryd.prog.wantsStandIn t)) = true by kernel_rfl) t (by rw [<- Array.getElem?_toList] at ht; exact List.mem_of_getElem? ht)
    have h4 : Tryd.prog.wantsStandIn t = false:=by simpa using h3
    exact h4⟩)
  (by kernel_rfl)
end Go.Proofs.YtgnnhemoocfclaaDoor
