import Derived.Test.YtgnnhemoocfclaaDoorReaS
namespace Go.Proofs.YtgnnhemoocfclaaDoor
open Go.Abs
abbrev SH : Sh:=.pair (.int .i64) (.pair (.int .i64) (.sl (.int .i64)))
abbrev Yn : Type:=Int × Int × List Int
abbrev qeC : List Kd:=[.dat (.sl SH),.dat SH]
abbrev qeA : List Kd:=[.dat (.bool)]
abbrev qcx : Type:=Dens qeA
noncomputable def qsj (_N : Nat) : Ctx:={ T:=[(33,⟨.slice 40,1,24,some (.sl SH),[.nil],false,[]⟩),(40,⟨.struct [(0,3),(1,3),(2,38)],3,40,some SH,[.int .i64 (0 : Int),.int .i64 (0 : Int),.nil],false,[]⟩)],G:=findE [mkP 37 qca qbY (qaQ _N)],I:=findI [],N:=_N,n:=17,fx:=[],fl:=0,gs:=Gs }
noncomputable def qkY (_N : Nat) : Option qcx :=
 (some (false,()))
noncomputable def qei (_N : Nat) (_k12 : Yn -> Option qcx) (_v1 : List Yn) (_v2 : Int) (_v4 : Int) (_v5 : Int) (_v6 : List Int) (_v3 : Int) (_kn13 : ((List Yn) × Int × Int × Int × List Int) × Int -> Option qcx) : Option qcx :=
 (bif (decide (_v3 < _v2)) then (bif (decide (0 <= _v3) && decide (_v3 < (_v1.length : Int))) then ((qaQ _N (((nth ((0 : Int),((0 : Int),[])) _v1 (_v3).toNat).1,(((nth ((0 : Int),((0 : Int),[])) _v1 (_v3).toNat).2).1,((nth ((0 : Int),((0 : Int),[])) _v1 (_v3).toNat).2).2)),(_v4,(_v5,_v6)),())).bind fun _y14=>(bif _y14.1 then (some (true,())) else (_kn13 ((_v1,_v2,_v4,_v5,_v6),(IntKind.i64.wrap (_v3 + (1 : Int))))))) else none) else (_k12 (_v4,_v5,_v6)))
noncomputable def qkX (_N : Nat) (_x1 : List Yn) (_x2 : Int × Int × List Int) : Option qcx :=
 (joinD (fun (_s : Int × Int × List Int)=>qkY _N) fun _k12=>(loopE (fun (_c : (List Yn) × Int × Int × Int × List Int) (_s : Int) _kn=>qei _N _k12 _c.1 _c.2.1 _c.2.2.1 _c.2.2.2.1 _c.2.2.2.2 _s _kn) _N (_x1,(_x1.length : Int),_x2.1,_x2.2.1,_x2.2.2) (0 : Int)))
noncomputable def qdv (_N : Nat) (_x : Dens qeC) : Option qcx:=qkX _N _x.1 _x.2.1
theorem qpi (_N : Nat) : SpecD Tryd.prog Gs 15 qeC qeA (qdv _N):=mkSpD (fn:=Tryd.f15) (c:=qF Tryd.f15) (C:=qsj _N)
  (a:=.two .none (.join 1 ⟨[],[.cells [.int .i64,.int .i64,.sl (.int .i64)]]⟩ (.two .none (.one (.loop 1 ⟨[(3,.ptr 0 0),(7,.sl SH),(8,.int .i64),(9,.int .i64)],[.cells [.int .i64,.int .i64,.sl (.int .i64)]]⟩ [2] .none))) .none))
  (by kernel_rfl) rfl (by kernel_rfl) (by kernel_rfl) ⟨rfl,by unfold TOk; kernel_rfl,qaz rfl rfl (List.forall_mem_cons.2 ⟨qgg _N,(List.forall_mem_nil _)⟩),qay rfl rfl (List.forall_mem_nil _),rfl⟩ (fun _x=>by kernel_rfl)
theorem qpX (_N : Nat) : EntOk Tryd.prog Gs (mkP 15 qeC qeA (qdv _N)):=entP ⟨Tryd.f15,qF Tryd.f15,by kernel_rfl,by kernel_rfl,rfl⟩ (by kernel_rfl) (qpi _N)
namespace Rea
theorem qxs {N : Nat} (hN : 500000000 <= N) {l : List Tr} (hl : l.length <= 450000000) (s : Tr) : ∃ b,qdv N (l,s,()) = some (b,()) /\ (b = true ↔ cov l s):=by
 have hes : (s.1,s.2.1,s.2.2) = s:=rfl
 simp only [qdv,qkX,joinD,loopE]
 by_cases hc : cov l s
 ·refine ⟨true,?_,by simp [hc]⟩
  obtain ⟨r,hr,hrs⟩:=hc
  obtain ⟨i,hi,rfl⟩:=mem_nth (z:=z3) hr
  refine qox (n:=l.length) (fun i=>leqS (nth z3 l i) s = true) (fun i hi hb kn=>?_) (fun i hi hb kn=>?_) (by omega) ⟨i,hi,hrs⟩
  ·simp only [qei,lt_d hi,ge0_d,Bool.and_self,cond_true,Int.toNat_natCast,nth3,hes,qjb (show 200000000 <= N by omega),Option.bind_some,hb]
  ·simp only [qei,lt_d hi,ge0_d,Bool.and_self,cond_true,Int.toNat_natCast,nth3,hes,qjb (show 200000000 <= N by omega),Option.bind_some,Bool.not_eq_true _ ▸ hb,cond_false,qE,ix1 hi (show l.length <= 1000000000 by omega)]
 ·refine ⟨false,?_,by simp [hc]⟩
  refine qmx (n:=l.length) (fun i hi kn=>?_) (fun kn=>?_) (by omega)
  ·have hb : leqS (nth z3 l i) s = false:=by
    cases e : leqS (nth z3 l i) s with
    | false=>rfl
    | true=>exact absurd ⟨_,qbk hi,e⟩ hc
   simp only [qei,lt_d hi,ge0_d,Bool.and_self,cond_true,Int.toNat_natCast,nth3,hes,qjb (show 200000000 <= N by omega),Option.bind_some,hb,cond_false,qE,ix1 hi (show l.length <= 1000000000 by omega)]
  ·simp only [qei,qaD,cond_false,qkY]
end Rea
end Go.Proofs.YtgnnhemoocfclaaDoor
