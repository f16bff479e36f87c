import Derived.Test.YtgnnhemoocfclaaDoorReaA
import Derived.Test.YtgnnhemoocfclaaDoorReaM
namespace Go.Proofs.YtgnnhemoocfclaaDoor
open Go.Abs
abbrev SS : Sh:=.pair (.int .i64) (.sl (.int .i64))
abbrev SQ : Sh:=.pair (.int .i64) (.pair (.int .i64) (.int .i64))
abbrev Yr : Type:=List (Int × Int × List Int)
abbrev Yq : Type:=Int × Int × Int
abbrev Yp : Type:=Int × Int × Int × Int × Int
abbrev qcb : List Kd:=[.ptr (.pair (.pair (.sl (.pair (.int .i64) (.pair (.int .i64) SQ))) (.sl SQ)) (.sl (.sl (.pair (.int .i64) SS)))),.dat SS,.dat SS]
abbrev qbZ : List Kd:=[.dat (.bool)]
abbrev qbr : Type:=Dens qbZ
noncomputable def qkV (_N : Nat) : Ctx:={ T:=[(3,⟨.int .i64,1,8,some (.int .i64),[.int .i64 (0 : Int)],false,[]⟩),(4,⟨.bool,1,1,some .bool,[.bool false],false,[]⟩),(38,⟨.slice 3,1,24,some (.sl (.int .i64)),[.nil],false,[]⟩),(52,⟨.struct [(0,3),(1,38)],2,32,some SS,[.int .i64 (0 : Int),.nil],false,[]⟩)],G:=findE [mkB3 55 qbt 76 (.pair (.pair (.sl (.pair (.int .i64) (.pair (.int .i64) SQ))) (.sl SQ)) (.sl (.sl (.pair (.int .i64) SS)))) SS (.int .i64) (qaZ _N),mkP 56 qer qej (qcc _N)],I:=findI [mkI3 76 (.pair (.pair (.sl (.pair (.int .i64) (.pair (.int .i64) SQ))) (.sl SQ)) (.sl (.sl (.pair (.int .i64) SS)))) SS (.int .i64) (.sl (.int .i64)) arrOk arrXs],N:=_N,n:=18,fx:=[],fl:=0,gs:=Gs }
noncomputable def qkh (_N : Nat) : Option qbr :=
 (some (false,()))
noncomputable def qcn (_N : Nat) (_v3 : Int) (_v4 : List Int) (_v5 : Int) (_v6 : List Int) (_v7 : Bool) (_kn16 : (Int × List Int × Int × List Int × Bool) × Unit -> Option qbr) (_y2 : List Int) : Option qbr :=
 ((qcc _N (_y2,_v6,())).bind fun _y17=>(bif _y17.1 then (some (true,())) else (_kn16 ((_v3,_v4,_v5,_v6,_v7),()))))
noncomputable def qgf (_N : Nat) (_x1 : (List Yp × List Yq) × List Yr) (_x2 : Int × List Int) (_x3 : Int × List Int) : Option qbr :=
 (joinD (fun (_s : Int × List Int × Int × List Int × Bool)=>qkh _N) fun _k14=>((qaZ _N (_x1,(_x2.1,_x2.2),_x3.1,())).bind fun _y15=>(bif arrOk _y15.1 _y15.2.1 _y15.2.2 then (forE (fun (_c : Int × List Int × Int × List Int × Bool) (_y : List Int) (_s : Unit) _kn=>qcn _N _c.1 _c.2.1 _c.2.2.1 _c.2.2.2.1 _c.2.2.2.2 _kn _y) (fun (_c : Int × List Int × Int × List Int × Bool) (_s : Unit)=>(_k14 (_c.1,_c.2.1,_c.2.2.1,_c.2.2.2.1,_c.2.2.2.2))) (arrXs _y15.1 _y15.2.1 _y15.2.2) (_x2.1,_x2.2,_x3.1,_x3.2,false) ()) else none)))
noncomputable def qba (_N : Nat) (_x : Dens qcb) : Option qbr:=qgf _N _x.1 _x.2.1 _x.2.2.1
theorem qjy (_N : Nat) : SpecD Tryd.prog Gs 39 qcb qbZ (qba _N):=mkSpD (fn:=Tryd.f39) (c:=qF Tryd.f39) (C:=qkV _N)
  (a:=.two .none (.join 3 ⟨[(6,.ptr 2 0)],[.cells [.int .i64,.sl (.int .i64)],.cells [.int .i64,.sl (.int .i64)],.cells [.bool]]⟩ (.two .none (.one (.keep [5,6,12] 3 (.each 3 [.cells [.int .i64,.sl (.int .i64)],.cells [.int .i64,.sl (.int .i64)],.cells [.bool]] [] .none .none)))) .none))
  (by kernel_rfl) rfl (by kernel_rfl) (by kernel_rfl) ⟨rfl,by unfold TOk; kernel_rfl,qaq rfl rfl (List.forall_mem_cons.2 ⟨qhV _N,(List.forall_mem_cons.2 ⟨qoT _N,(List.forall_mem_nil _)⟩)⟩),qap rfl rfl (List.forall_mem_cons.2 ⟨qAI,(List.forall_mem_nil _)⟩),rfl⟩ (fun _x=>by kernel_rfl)
theorem qjJ (_N : Nat) : EntOk Tryd.prog Gs (mkP 39 qcb qbZ (qba _N)):=entP ⟨Tryd.f39,qF Tryd.f39,by kernel_rfl,by kernel_rfl,rfl⟩ (by kernel_rfl) (qjy _N)
abbrev qev : List Kd:=[.dat (.pair (.sl (.pair (.int .i64) (.pair (.int .i64) SQ))) (.sl SQ)),.dat SS,.dat SS]
abbrev qen : List Kd:=[.dat (.bool),.dat (.int .i64)]
abbrev qaJ : Type:=Dens qen
noncomputable def qrr (_N : Nat) : Ctx:={ T:=[(25,⟨.struct [(0,22),(1,23)],2,48,some (.pair (.sl (.pair (.int .i64) (.pair (.int .i64) SQ))) (.sl SQ)),[.nil,.nil],false,[]⟩),(27,⟨.int .i64,1,8,some (.int .i64),[.int .i64 (0 : Int)],false,[]⟩),(29,⟨.struct [(0,27),(1,3)],2,16,some (.pair (.int .i64) (.int .i64)),[.int .i64 (0 : Int),.int .i64 (0 : Int)],true,[]⟩),(52,⟨.struct [(0,3),(1,38)],2,32,some SS,[.int .i64 (0 : Int),.nil],false,[]⟩),(95,⟨.array 2 52,4,64,none,[.int .i64 (0 : Int),.nil,.int .i64 (0 : Int),.nil],false,[]⟩)],G:=findE [mkHe 27 qhC (qbV _N),mkP 38 qew qeo (qbh _N),mkP 39 qcb qbZ (qba _N)],I:=findI [],N:=_N,n:=40,fx:=[],fl:=0,gs:=Gs }
noncomputable def qql (_N : Nat) : Option qaJ :=
 none
noncomputable def qqk (_N : Nat) (_k47 : ((List Yp) × (List Yq) × Int × List Int × Int × List Int × Int × Int) -> Option qaJ) (_v4 : Int) (_v5 : List Int) (_v6 : Int) (_v7 : List Int) (_v9 : List Yp) (_v10 : List Yq) (_v11 : Int) (_v12 : List Int) (_v13 : Int) (_v14 : List Int) (_v15 : Int) (_v16 : Int) (_v8 : Int) (_kn48 : (Int × List Int × Int × List Int × (List Yp) × (List Yq) × Int × List Int × Int × List Int × Int × Int) × Int -> Option qaJ) : Option qaJ :=
 (bif (decide (_v8 < (2 : Int))) then (bif (_v8 == ((0 : Nat) : Int)) then ((qbh _N ((_v9,_v10),(_v4,_v5),())).bind fun _y50=>(bif (_y50.1 != (0 : Int)) then (some (false,_y50.1,())) else (_kn48 ((_v4,_v5,_v6,_v7,_v9,_v10,_v11,_v12,_v13,_v14,_v15,_v16),(IntKind.i64.wrap (_v8 + (1 : Int))))))) else (bif (_v8 == ((1 : Nat) : Int)) then ((qbh _N ((_v9,_v10),(_v6,_v7),())).bind fun _y49=>(bif (_y49.1 != (0 : Int)) then (some (false,_y49.1,())) else (_kn48 ((_v4,_v5,_v6,_v7,_v9,_v10,_v11,_v12,_v13,_v14,_v15,_v16),(IntKind.i64.wrap (_v8 + (1 : Int))))))) else none)) else (_k47 (_v9,_v10,_v11,_v12,_v13,_v14,_v15,_v16)))
noncomputable def qkj (_N : Nat) (_v23 : Int) (_v24 : List Int) (_v25 : Int) (_v26 : List Int) (_v38 : List Yp) (_v39 : List Yq) (_v40 : List Yr) : Option qaJ :=
 ((qba _N (((_v38,_v39),_v40),(_v23,_v24),(_v25,_v26),())).bind fun _y51=>(some (_y51.1,(0 : Int),())))
noncomputable def qki (_N : Nat) (_k52 : ((List Yp) × (List Yq) × Int × List Int × Int × List Int × (List Yp) × (List Yq) × (List Yr) × Int × Int) -> Option qaJ) (_v4 : Int) (_v5 : List Int) (_v6 : Int) (_v7 : List Int) (_v9 : List Yp) (_v10 : List Yq) (_v11 : Int) (_v12 : List Int) (_v13 : Int) (_v14 : List Int) (_v29 : List Yp) (_v30 : List Yq) (_v31 : List Yr) (_v32 : Int) (_v33 : Int) (_v8 : Int) (_kn53 : (Int × List Int × Int × List Int × (List Yp) × (List Yq) × Int × List Int × Int × List Int × (List Yp) × (List Yq) × (List Yr) × Int × Int) × Int -> Option qaJ) : Option qaJ :=
 (bif (decide (_v8 < (2 : Int))) then (bif (_v8 == ((0 : Nat) : Int)) then ((qbh _N ((_v9,_v10),(_v4,_v5),())).bind fun _y55=>(bif (_y55.1 != (0 : Int)) then (some (false,_y55.1,())) else (_kn53 ((_v4,_v5,_v6,_v7,_v9,_v10,_v11,_v12,_v13,_v14,_v29,_v30,_v31,_v32,_v33),(IntKind.i64.wrap (_v8 + (1 : Int))))))) else (bif (_v8 == ((1 : Nat) : Int)) then ((qbh _N ((_v9,_v10),(_v6,_v7),())).bind fun _y54=>(bif (_y54.1 != (0 : Int)) then (some (false,_y54.1,())) else (_kn53 ((_v4,_v5,_v6,_v7,_v9,_v10,_v11,_v12,_v13,_v14,_v29,_v30,_v31,_v32,_v33),(IntKind.i64.wrap (_v8 + (1 : Int))))))) else none)) else (_k52 (_v9,_v10,_v11,_v12,_v13,_v14,_v29,_v30,_v31,_v32,_v33)))
noncomputable def qho (_N : Nat) (_x1 : List Yp × List Yq) (_x2 : Int × List Int) (_x3 : Int × List Int) : Option qaJ :=
 ((qbV _N (_x1.1,_x1.2)).bind fun _y44=>(caseD _y44 (fun _y45=>(bif (_y45.1 != (0 : Int)) then (some (false,_y45.1,())) else (joinD (fun (_s : (List Yp) × (List Yq) × Int × List Int × Int × List Int × Int × Int)=>qql _N) fun _k47=>(loopE (fun (_c : Int × List Int × Int × List Int × (List Yp) × (List Yq) × Int × List Int × Int × List Int × Int × Int) (_s : Int) _kn=>qqk _N _k47 _c.1 _c.2.1 _c.2.2.1 _c.2.2.2.1 _c.2.2.2.2.1 _c.2.2.2.2.2.1 _c.2.2.2.2.2.2.1 _c.2.2.2.2.2.2.2.1 _c.2.2.2.2.2.2.2.2.1 _c.2.2.2.2.2.2.2.2.2.1 _c.2.2.2.2.2.2.2.2.2.2.1 _c.2.2.2.2.2.2.2.2.2.2.2 _s _kn) _N (_x2.1,_x2.2,_x3.1,_x3.2,_x1.1,_x1.2,_x2.1,_x2.2,_x3.1,_x3.2,_y45.1,_y45.2) (0 : Int))))) fun _y46=>(bif (_y46.1.1 != (0 : Int)) then (some (false,_y46.1.1,())) else (joinD (fun (_s : (List Yp) × (List Yq) × Int × List Int × Int × List Int × (List Yp) × (List Yq) × (List Yr) × Int × Int)=>qkj _N _s.2.2.1 _s.2.2.2.1 _s.2.2.2.2.1 _s.2.2.2.2.2.1 _s.2.2.2.2.2.2.1 _s.2.2.2.2.2.2.2.1 _s.2.2.2.2.2.2.2.2.1) fun _k52=>(loopE (fun (_c : Int × List Int × Int × List Int × (List Yp) × (List Yq) × Int × List Int × Int × List Int × (List Yp) × (List Yq) × (List Yr) × Int × Int) (_s : Int) _kn=>qki _N _k52 _c.1 _c.2.1 _c.2.2.1 _c.2.2.2.1 _c.2.2.2.2.1 _c.2.2.2.2.2.1 _c.2.2.2.2.2.2.1 _c.2.2.2.2.2.2.2.1 _c.2.2.2.2.2.2.2.2.1 _c.2.2.2.2.2.2.2.2.2.1 _c.2.2.2.2.2.2.2.2.2.2.1 _c.2.2.2.2.2.2.2.2.2.2.2.1 _c.2.2.2.2.2.2.2.2.2.2.2.2.1 _c.2.2.2.2.2.2.2.2.2.2.2.2.2.1 _c.2.2.2.2.2.2.2.2.2.2.2.2.2.2 _s _kn) _N (_x2.1,_x2.2,_x3.1,_x3.2,_x1.1,_x1.2,_x2.1,_x2.2,_x3.1,_x3.2,_y46.2.1,_y46.2.2.1,_y46.2.2.2,_y46.1.1,_y46.1.2) (0 : Int))))))
noncomputable def qaV (_N : Nat) (_x : Dens qev) : Option qaJ:=qho _N _x.1 _x.2.1 _x.2.2.1
theorem qoz (_N : Nat) : SpecD Tryd.prog Gs 17 qev qen (qaV _N):=mkSpD (fn:=Tryd.f17) (c:=qF Tryd.f17) (C:=qrr _N)
  (a:=.two .none (.two .none (.sel 8 999999999 (.two (.two .none (.two (.two (.draw 0 [.pure,.rd [8],.pure,.pure]) .none) .none)) (.join 9 ⟨[(4,.ptr 1 0),(5,.ptr 2 0),(8,.ptr 7 0)],[.cells [.sl (.pair (.int .i64) (.pair (.int .i64) SQ)),.sl SQ],.cells [.int .i64,.sl (.int .i64)],.cells [.int .i64,.sl (.int .i64)],.none,.none,.none,.none,.cells [.sl (.pair (.int .i64) (.pair (.int .i64) SQ)),.sl SQ,.sl (.sl (.pair (.int .i64) SS))],.cells [.int .i64,.int .i64]]⟩ (.two .none (.one (.loop 9 ⟨[(3,.ptr 0 0),(4,.ptr 1 0),(5,.ptr 2 0),(8,.ptr 7 0),(25,.agg [.int .i64,.sl (.int .i64),.int .i64,.sl (.int .i64)]),(26,.int .i64)],[.cells [.sl (.pair (.int .i64) (.pair (.int .i64) SQ)),.sl SQ],.cells [.int .i64,.sl (.int .i64)],.cells [.int .i64,.sl (.int .i64)],.none,.none,.none,.none,.cells [.sl (.pair (.int .i64) (.pair (.int .i64) SQ)),.sl SQ,.sl (.sl (.pair (.int .i64) SS))],.cells [.int .i64,.int .i64]]⟩ [4] .none))) .none)) (.two (.two .none (.two (.two (.draw 0 [.pure,.rd [3],.pure,.pure]) .none) .none)) (.join 4 ⟨[(4,.ptr 1 0),(5,.ptr 2 0),(8,.nl .ptr)],[.cells [.sl (.pair (.int .i64) (.pair (.int .i64) SQ)),.sl SQ],.cells [.int .i64,.sl (.int .i64)],.cells [.int .i64,.sl (.int .i64)],.cells [.int .i64,.int .i64]]⟩ (.two .none (.one (.loop 4 ⟨[(3,.ptr 0 0),(4,.ptr 1 0),(5,.ptr 2 0),(8,.nl .ptr),(25,.agg [.int .i64,.sl (.int .i64),.int .i64,.sl (.int .i64)]),(26,.int .i64)],[.cells [.sl (.pair (.int .i64) (.pair (.int .i64) SQ)),.sl SQ],.cells [.int .i64,.sl (.int .i64)],.cells [.int .i64,.sl (.int .i64)],.cells [.int .i64,.int .i64]]⟩ [4] .none))) .none)))))
  (by kernel_rfl) rfl (by kernel_rfl) (by kernel_rfl) ⟨rfl,by unfold TOk; kernel_rfl,qaq rfl rfl (List.forall_mem_cons.2 ⟨qqT _N,(List.forall_mem_cons.2 ⟨qoX _N,(List.forall_mem_cons.2 ⟨qjJ _N,(List.forall_mem_nil _)⟩)⟩)⟩),qap rfl rfl (List.forall_mem_nil _),rfl⟩ (fun _x=>by kernel_rfl)
theorem qoW (_N : Nat) : EntOk Tryd.prog Gs (mkP 17 qev qen (qaV _N)):=entP ⟨Tryd.f17,qF Tryd.f17,by kernel_rfl,by kernel_rfl,rfl⟩ (by kernel_rfl) (qoz _N)
end Go.Proofs.YtgnnhemoocfclaaDoor
namespace Go.Proofs.YtgnnhemoocfclaaDoor.Rea
open Go.Abs
open Go.Smy (Sm qB qx qat qaF qaG leqP qaH thenS)
open Go.Proofs.YtgnnhemoocfclaaDoor.Gh (Nd Ed nsum qaf GrOk qac)
theorem qmB {t : List Int} (h : tok t = true) : ∀ i,0 <= nth 0 t i /\ nth 0 t i <= 1048576:=fun i=>by
 simp only [tok,Bool.and_eq_true,List.all_eq_true,decide_eq_true_eq] at h
 by_cases hi : i < t.length
 ·exact h.2 _ (qbu hi)
 ·have e : nth (0 : Int) t i = 0:=by simp [nth,List.getD,List.getElem?_eq_none (show t.length <= i by omega)]
  rw [e]; decide
structure AplOk (x : Tr) (t : List Int) : Prop where
 tk : tok t = true
 chk : qB (sm x) t.length = 0
 big : nth 0 t (x.1.toNat - 1) + x.2.1 <= 1048576
theorem qzC {α : Type} (a b : List α) (i : Nat) (v : α) (h : i < a.length) : (a ++ b).set i v = a.set i v ++ b:=by
 rw [List.set_append,if_pos h]
theorem qrw {N : Nat} (hN : 200000000 <= N) (x : Tr) (t : List Int) : ∃ y e,qaY N (x,t,()) = some (y,e,()) /\ (e = 0 ↔ AplOk x t) /\ (e = 0 -> y = apl x t):=by
 obtain ⟨k,a,p⟩:=x
 obtain ⟨c,hc,hc0⟩:=Check_eq hN t
 simp only [qaY,qid,hc,Option.bind_some]
 by_cases h0 : c = 0
 case neg=>exact ⟨[],c,by rw [bne_iff_ne.2 h0,cond_true],⟨fun e=>absurd e h0,fun h=>absurd (hc0.2 h.tk) h0⟩,fun e=>absurd e h0⟩
 subst h0
 have htk:=hc0.1 rfl
 have hsc:=qiB hN (k,a,p) (t.length : Int)
 simp only [bne_self_eq_false,cond_false,hsc,Option.bind_some]
 by_cases h1 : qB (sm (k,a,p)) t.length = 0
 case neg=>exact ⟨[],_,by rw [bne_iff_ne.2 h1,cond_true],⟨fun e=>absurd e h1,fun h=>absurd h.chk h1⟩,fun e=>absurd e h1⟩
 obtain ⟨-,n4,k1,kn,ko,abad,pbad⟩:=qx.1 h1
 simp only [sm] at k1 kn ko abad pbad
 have hkn : k.toNat <= t.length:=by omega
 have hlt : (t.take k.toNat).length = k.toNat:=by rw [List.length_take]; omega
 have hw : IntKind.i64.wrap (k - 1) = ((k.toNat - 1 : Nat) : Int):=by rw [w64 (by omega) (by omega)]; omega
 have hcl:=qqZ (N:=N) (a:=t.take k.toNat) (by omega)
 have hlen : (t.take k.toNat ++ p).length = k.toNat + p.length:=by rw [List.length_append,hlt]
 have hn : nth (0 : Int) (t.take k.toNat ++ p) (k.toNat - 1) = nth 0 t (k.toNat - 1):=by
  rw [show nth (0 : Int) (t.take k.toNat ++ p) (k.toNat - 1) = nth 0 (t.take k.toNat) (k.toNat - 1) from Go.Smy.nth_append_left _ _ _ (by omega)]
  exact Go.Smy.nth_take t _ _ (by omega)
 have hbt:=qmB htk (k.toNat - 1)
 have hadd : IntKind.i64.wrap (nth 0 t (k.toNat - 1) + a) = nth 0 t (k.toNat - 1) + a:=w64 (by omega) (by omega)
 have hset : nth (0 : Int) ((t.take k.toNat ++ p).set (k.toNat - 1) (nth 0 t (k.toNat - 1) + a)) (k.toNat - 1) = nth 0 t (k.toNat - 1) + a:=by
  rw [nth_set (by omega),if_pos rfl]
 simp only [h1,bne_self_eq_false,cond_false,Int.toNat_zero,List.drop_zero,hcl,Option.bind_some,hw,hn,hadd,Int.toNat_natCast,hset,List.length_set]
 rw [qi (show (0 : Int) <= 0 by omega),qi (show (0 : Int) <= k by omega),qi (show k <= (t.length : Int) by omega),hlt,qi (show (k.toNat + p.length) * 8 <= 140737488355328 by omega),qi (show (0 : Int) <= ((k.toNat - 1 : Nat) : Int) by omega),qi (show ((k.toNat - 1 : Nat) : Int) < ((t.take k.toNat ++ p).length : Int) by omega)]
 simp only [Bool.and_self,cond_true,show Nat.ble 1 8 = true from rfl]
 rw [qhW N (nth 0 t (k.toNat - 1) + a)]
 simp only [Option.bind_some,Bool.not_not]
 cases hb : qat (nth 0 t (k.toNat - 1) + a) with
 | true =>
  refine ⟨[],6,rfl,⟨fun e=>(by cases e),fun h=>?_⟩,fun e=>(by cases e)⟩
  have:=h.big
  have h2 : qat (nth 0 t (k.toNat - 1) + a) = false:=qaF.2 ⟨by omega,this⟩
  rw [hb] at h2; cases h2
 | false =>
  refine ⟨_,0,rfl,⟨fun _=>⟨htk,h1,(qaF.1 hb).2⟩,fun _=>rfl⟩,fun _=>?_⟩
  show _ = (t.take k.toNat).set (k.toNat - 1) (nth 0 t (k.toNat - 1) + a) ++ p
  exact qzC _ _ _ _ (by omega)
section
variable {ns : List Nd} {es : List Ed}
structure Sok (ns : List Nd) (s : Int × List Int) : Prop where
 a0 : 0 <= s.1
 an : s.1 < ns.length
 tk : tok s.2 = true
 len : (s.2.length : Int) = dp ns s.1
theorem qpS {N : Nat} (hN : 200000000 <= N) (s : Int × List Int) : ∃ e,qbh N ((ns,es),s,()) = some (e,()) /\ (e = 0 ↔ Sok ns s):=by
 simp only [qbh,qkk]
 by_cases h0 : s.1 < 0
 ·exact ⟨2,by rw [qi h0,cond_true],⟨fun e=>(by cases e),fun h=>(by have:=h.a0; omega)⟩⟩
 by_cases hn : s.1 >= ns.length
 ·exact ⟨2,by rw [qj h0,qi hn,cond_true,cond_false],⟨fun e=>(by cases e),fun h=>(by have:=h.an; omega)⟩⟩
 rw [qj h0,qj hn,cond_false,cond_false]
 obtain ⟨c,hc,hc0⟩:=Check_eq hN s.2
 simp only [hc,Option.bind_some]
 by_cases h1 : c = 0
 case neg=>exact ⟨c,by rw [bne_iff_ne.2 h1,cond_true],fun e=>absurd e h1,fun h=>absurd (hc0.2 h.tk) h1⟩
 subst h1
 rw [bne_self_eq_false,cond_false,qi (show 0 <= s.1 by omega),qi (show s.1 < (ns.length : Int) by omega),Bool.and_self,cond_true]
 by_cases h2 : (s.2.length : Int) = dp ns s.1
 ·refine ⟨0,?_,fun _=>⟨by omega,by omega,hc0.1 rfl,h2⟩,fun _=>rfl⟩
  rw [show ((s.2.length : Int) != ((nth ((0 : Int),((0 : Int),((0 : Int),((0 : Int),(0 : Int))))) ns s.1.toNat).2).1) = false from bne_eq_false_iff_eq.2 h2,cond_false]
 ·refine ⟨7,?_,⟨fun e=>(by cases e),fun h=>absurd h.len h2⟩⟩
  rw [show ((s.2.length : Int) != ((nth ((0 : Int),((0 : Int),((0 : Int),((0 : Int),(0 : Int))))) ns s.1.toNat).2).1) = true from bne_iff_ne.2 h2,cond_true]
def could (ns : List Nd) (P : List (List Tr)) (a b : Int × List Int) : Prop:=∃ r ∈ rw_ ns.length P a.1 b.1,AplOk r a.2 /\ undr (apl r a.2) b.2 = true
theorem ix_eq (h : GrOk ns es) {a b : Int} (a0 : 0 <= a) (an : a < ns.length) (b0 : 0 <= b) (bn : b < ns.length) : IntKind.i64.wrap (IntKind.i64.wrap (a * (ns.length : Int)) + b) = ((a.toNat * ns.length + b.toNat : Nat) : Int):=by
 have hn:=h.n12
 have hm0 : 0 <= a * (ns.length : Int):=Int.mul_nonneg a0 (by omega)
 have hm2 : a * (ns.length : Int) <= 12 * 12:=Int.mul_le_mul (by omega) (by omega) (by omega) (by omega)
 rw [w64 (show -9223372036854775808 <= a * (ns.length : Int) by omega) (by omega),w64 (by omega) (by omega),Int.natCast_add,Int.natCast_mul,show ((a.toNat : Nat) : Int) = a by omega,show ((b.toNat : Nat) : Int) = b by omega]
theorem qqO (h : GrOk ns es) {a b : Int} {r : Tr} {t : List Int} (fr : Fit ns a b r) (hl : (t.length : Int) = dp ns a) (d4 : dp ns b <= 4) : Fits r t:=⟨fr.k1,by rw [hl]; exact fr.keep,by rw [fr.out]; exact d4⟩
theorem qxQ (x : Tr) (t : List Int) : ((aplD x t).2.1 = 0 ↔ AplOk x t) /\ ((aplD x t).2.1 = 0 -> (aplD x t).1 = apl x t):=by
 obtain ⟨y,e,h1,h2,h3⟩:=qrw (N:=aN) (Nat.le_refl _) x t
 have : aplD x t = (y,e,()):=by unfold aplD; rw [h1]; rfl
 rw [this]
 exact ⟨h2,h3⟩
theorem qzs (h : GrOk ns es) {P : List (List Tr)} (hP : ReachOk ns es P) {a : Int × List Int} {c : Int} (a0 : 0 <= a.1) (an : a.1 < ns.length) (b0 : 0 <= c) (bn : c < ns.length) : arrOk ((ns,es),P) a c = true /\ qji ((ns,es),P) a c = rw_ ns.length P a.1 c:=by
 have e:=ix_eq h a0 an b0 bn
 have e1 : arrIx ((ns,es),P) a c = ((a.1.toNat * ns.length + c.toNat : Nat) : Int):=e
 have hlt : a.1.toNat * ns.length + c.toNat < P.length:=by rw [hP.pn]; exact ix_lt (by omega) (by omega)
 refine ⟨?_,by rw [qji,e1,Int.toNat_natCast]⟩
 simp only [arrOk,e1,Bool.and_eq_true,decide_eq_true_eq,List.all_eq_true]
 refine ⟨⟨by omega,by omega⟩,fun x _=>?_⟩
 obtain ⟨y,e,h1,-⟩:=qrw (N:=aN) (Nat.le_refl _) x a.2
 rw [h1]; rfl
theorem qzM (h : GrOk ns es) {P : List (List Tr)} (hP : ReachOk ns es P) {a : Int × List Int} {c : Int} (a0 : 0 <= a.1) (an : a.1 < ns.length) (b0 : 0 <= c) (bn : c < ns.length) {y : List Int} : y ∈ arrXs ((ns,es),P) a c ↔ ∃ r ∈ rw_ ns.length P a.1 c,AplOk r a.2 /\ y = apl r a.2:=by
 rw [arrXs,(qzs h hP a0 an b0 bn).2]
 simp only [List.mem_map,List.mem_filter,beq_iff_eq]
 constructor
 ·rintro ⟨r,⟨h1,h2⟩,rfl⟩
  obtain ⟨h3,h4⟩:=qxQ r a.2
  exact ⟨r,h1,h3.1 h2,h4 h2⟩
 ·rintro ⟨r,h1,h2,rfl⟩
  obtain ⟨h3,h4⟩:=qxQ r a.2
  exact ⟨r,⟨h1,h3.2 h2⟩,h4 (h3.2 h2)⟩
theorem qxU {N : Nat} (hN : 200000000 <= N) (h : GrOk ns es) {P : List (List Tr)} (hP : ReachOk ns es P) {a b : Int × List Int} (sa : Sok ns a) (sb : Sok ns b) : ∃ c,qba N (((ns,es),P),a,b,()) = some (c,()) /\ (c = true ↔ could ns P a b):=by
 obtain ⟨k1,-⟩:=qzs h hP sa.a0 sa.an sb.a0 sb.an
 have hmem:=fun y=>qzM h hP (y:=y) sa.a0 sa.an sb.a0 sb.an
 have hlen : ∀ y ∈ arrXs ((ns,es),P) a b.1,y.length = b.2.length:=fun y hy=>by
  obtain ⟨r,hr,hk,rfl⟩:=(hmem y).1 hy
  have fr:=(hP.sound _ _ sa.a0 sa.an sb.a0 sb.an r hr).fit h sa.a0 sa.an
  have h1:=qre (qqO h fr sa.len (qvd h sb.a0 sb.an).2)
  have h2:=fr.out
  have h3:=sb.len
  omega
 have hU : ∀ y ∈ arrXs ((ns,es),P) a b.1,qcc N (y,b.2,()) = some (undr y b.2,()):=fun y hy=>qza (hlen y hy) (by rw [hlen y hy]; exact (qzy sb.tk).2) hN
 simp only [qba,qgf,joinD,qaZ,qez,Option.bind_some]
 have ea : (a.1,a.2) = a:=rfl
 simp only [ea,k1,cond_true,forE]
 have hc : could ns P a b ↔ ∃ y ∈ arrXs ((ns,es),P) a b.1,undr y b.2 = true:=by
  constructor
  ·rintro ⟨r,h1,h2,h3⟩
   exact ⟨_,(hmem _).2 ⟨r,h1,h2,rfl⟩,h3⟩
  ·rintro ⟨y,h1,h2⟩
   obtain ⟨r,h3,h4,rfl⟩:=(hmem y).1 h1
   exact ⟨r,h3,h4,h2⟩
 by_cases hex : could ns P a b
 ·refine ⟨true,?_,by simp [hex]⟩
  refine quV (r:=some (true,())) (fun y=>undr y b.2 = true) _ (fun y hy hb kn=>?_) (fun y hy hb kn=>?_) (hc.1 hex)
  ·simp only [qcn,hU y hy,Option.bind_some,hb,cond_true]
  ·simp only [qcn,hU y hy,Option.bind_some,Bool.not_eq_true _ ▸ hb,cond_false,qG]
 ·refine ⟨false,?_,by simp [hex]⟩
  refine (qsB _ (fun y hy kn=>?_)).trans ?_
  ·have hb : undr y b.2 = false:=by
    cases e : undr y b.2 with
    | false=>rfl
    | true=>exact absurd (hc.2 ⟨y,hy,e⟩) hex
   simp only [qcn,hU y hy,Option.bind_some,hb,cond_false,qG]
  ·rfl
theorem qxX {N : Nat} (hN : 500000000 <= N) (hg : ¬ GrOk ns es) (a b : Int × List Int) : ∃ e,qaV N ((ns,es),a,b,()) = some (false,e,()) /\ e ≠ 0:=by
 rcases Of_eq hN ns es with ⟨c,p,h1,h2,-⟩ | ⟨h,-⟩
 ·refine ⟨c,?_,h1⟩
  simp only [qaV,qho,h2,Option.bind_some,caseD]
  rw [bne_iff_ne.2 h1,cond_true]
 ·exact absurd h hg
theorem lD2 {R S : Type} (f : S -> (S -> Option R) -> Option R) (n : Nat) (s : S) : loopD f (n + 1) s = f s (loopD f n):=rfl
theorem qzb {N : Nat} (hN : 500000000 <= N) (h : GrOk ns es) {P : List (List Tr)} (hP : ReachOk ns es P) (hO : qbV N (ns,es) = some (Sum.inr (((0 : Int),(0 : Int)),ns,es,P))) (a b : Int × List Int) : ∃ c e,qaV N ((ns,es),a,b,()) = some (c,e,()) /\ (e = 0 ↔ Sok ns a /\ Sok ns b) /\ (e = 0 -> (c = true ↔ could ns P a b)):=by
 obtain ⟨M,rfl⟩ : ∃ M,N = M + 3:=⟨N - 3,by omega⟩
 obtain ⟨e1,h1,h2⟩:=qpS (ns:=ns) (es:=es) (N:=M + 3) (by omega) a
 obtain ⟨e2,h3,h4⟩:=qpS (ns:=ns) (es:=es) (N:=M + 3) (by omega) b
 have ea : (a.1,a.2) = a:=rfl
 have eb : (b.1,b.2) = b:=rfl
 simp only [qaV,qho,hO,Option.bind_some,caseD,bne_self_eq_false,cond_false,joinD,loopE]
 rw [lD2]
 simp only [qki,qi (show (0 : Int) < 2 by decide),cond_true,ea,eb,h1,Option.bind_some,show ((0 : Int) == ((0 : Nat) : Int)) = true from rfl]
 by_cases q1 : e1 = 0
 case neg =>
  refine ⟨false,e1,by rw [bne_iff_ne.2 q1,cond_true],⟨fun e=>absurd e q1,fun e=>absurd (h2.2 e.1) q1⟩,fun e=>absurd e q1⟩
 subst q1
 have w1 : IntKind.i64.wrap (0 + 1) = 1:=by decide
 have w2 : IntKind.i64.wrap (1 + 1) = 2:=by decide
 simp only [bne_self_eq_false,cond_false,qG,w1]
 rw [lD2]
 simp only [qi (show (1 : Int) < 2 by decide),cond_true,show ((1 : Int) == ((0 : Nat) : Int)) = false from rfl,cond_false,show ((1 : Int) == ((1 : Nat) : Int)) = true from rfl,h3,Option.bind_some]
 by_cases q2 : e2 = 0
 case neg =>
  refine ⟨false,e2,by rw [bne_iff_ne.2 q2,cond_true],⟨fun e=>absurd e q2,fun e=>absurd (h4.2 e.2) q2⟩,fun e=>absurd e q2⟩
 subst q2
 simp only [bne_self_eq_false,cond_false,qG,w2]
 rw [lD2]
 simp only [qj (show ¬ (2 : Int) < 2 by decide),cond_false,qkj]
 have sa:=h2.1 rfl
 have sb:=h4.1 rfl
 obtain ⟨c,h5,h6⟩:=qxU (N:=M + 3) (by omega) h hP sa sb
 simp only [ea,eb,h5,Option.bind_some]
 exact ⟨c,0,rfl,⟨fun _=>⟨sa,sb⟩,fun _=>rfl⟩,fun _=>h6⟩
end
end Go.Proofs.YtgnnhemoocfclaaDoor.Rea
namespace Go.Proofs.YtgnnhemoocfclaaDoor.Rea
open Go.Abs
open Go.Smy (Sm qB qx qat qaF qaG leqP qaH thenS)
open Go.Proofs.YtgnnhemoocfclaaDoor.Gh (Nd Ed nsum qaf GrOk qac)
theorem qqt {t : List Int} {i : Nat} (h : t.length <= i) : nth (0 : Int) t i = 0:=by simp [nth,List.getD,List.getElem?_eq_none h]
theorem qyd {a b : List Int} (hl : a.length = b.length) : undr a b = true ↔ ∀ i,nth 0 a i <= nth 0 b i:=by
 rw [qpU hl]
 refine ⟨fun h i=>?_,fun h i _=>h i⟩
 by_cases hi : i < a.length
 ·exact h i hi
 ·rw [qqt (by omega),qqt (by omega)]; exact Int.le_refl _
theorem qAr {x : Tr} {t : List Int} (h : AplOk x t) : tok (apl x t) = true:=by
 obtain ⟨-,n4,k1,kn,ko,abad,pbad⟩:=qx.1 h.chk
 simp only [sm] at k1 kn ko abad pbad
 have hf:=qxk h.chk
 have hl:=qre hf
 simp only [outT] at hl
 have hb:=h.big
 have hall : ∀ y ∈ apl x t,0 <= y /\ y <= 1048576:=by
  intro y hy
  unfold apl at hy
  rcases List.mem_append.1 hy with hy | hy
  ·rcases List.mem_or_eq_of_mem_set hy with hy | rfl
   ·obtain ⟨i,hi,rfl⟩:=mem_nth (z:=(0 : Int)) (List.mem_of_mem_take hy)
    exact qmB h.tk i
   ·have:=qmB h.tk (x.1.toNat - 1)
    omega
  ·obtain ⟨i,hi,rfl⟩:=mem_nth (z:=(0 : Int)) hy
   exact pbad i hi
 simp only [tok,Bool.and_eq_true,List.all_eq_true,decide_eq_true_eq]
 exact ⟨⟨by omega,by omega⟩,hall⟩
section
variable {ns : List Nd} {es : List Ed} {P : List (List Tr)}
theorem Sok.pos {s : Int × List Int} (h : Sok ns s) : ∀ i,0 <= nth 0 s.2 i:=fun i=>(qmB h.tk i).1
theorem qxA (h : GrOk ns es) (hP : ReachOk ns es P) {a b : Int × List Int} (sa : Sok ns a) (sb : Sok ns b) {s : Tr} (w : Way ns es a.1 b.1 s) (hs : ∀ i,nth 0 (apl s a.2) i <= nth 0 b.2 i) : could ns P a b:=by
 obtain ⟨r,hr,hrs⟩:=hP.full a.1 b.1 sa.a0 sa.an s w
 have d4:=(qvd h sb.a0 sb.an).2
 have fs:=w.fit h sa.a0 sa.an
 have fr:=(hP.sound _ _ sa.a0 sa.an sb.a0 sb.an r hr).fit h sa.a0 sa.an
 have ts:=qqO h fs sa.len d4
 have tr:=qqO h fr sa.len d4
 have hm:=qyY hrs tr ts sa.pos (fun i=>Int.le_refl _)
 have hl : ((apl r a.2).length : Int) = dp ns b.1:=by rw [qre tr,fr.out]
 have hlb:=sb.len
 have hle : ∀ i,nth 0 (apl r a.2) i <= nth 0 b.2 i:=fun i=>by
  by_cases hi : (i : Int) < outT r
  ·exact Int.le_trans (hm i hi) (hs i)
  ·have e:=fr.out
   rw [qqt (by omega),qqt (by omega)]; exact Int.le_refl _
 have k1:=fr.k1
 refine ⟨r,hr,⟨sa.tk,by rw [sa.len]; exact fr.chkD h sa.a0 sa.an,?_⟩,(qyd (by omega)).2 hle⟩
 have hk : ((r.1.toNat - 1 : Nat) : Int) < outT r:=by simp only [outT]; omega
 have e1:=quf tr hk
 rw [if_pos (by omega)] at e1
 have e2 : pl r ((r.1.toNat - 1 : Nat) : Int) = r.2.1:=Go.Smy.placeN_last (s:=sm r) (show ((r.1.toNat - 1 : Nat) : Int) = r.1 - 1 by omega)
 have h1:=hle (r.1.toNat - 1)
 have h2:=qmB sb.tk (r.1.toNat - 1)
 omega
theorem qvK (h : GrOk ns es) (hP : ReachOk ns es P) {e : Ed} (he : e ∈ es) {t : List Int} (hl : (t.length : Int) = dp ns e.1) (hk : AplOk (qn ns e.1) t) : Sok ns (e.1,t) /\ Sok ns (e.2.1,apl (qn ns e.1) t) /\ could ns P (e.1,t) (e.2.1,apl (qn ns e.1) t):=by
 have x:=edgeF h he
 have sa : Sok ns (e.1,t):=⟨x.f0,x.fn,hk.tk,hl⟩
 have sb : Sok ns (e.2.1,apl (qn ns e.1) t):=⟨x.t0,x.tn,qAr hk,(qre (qxk hk.chk)).trans x.out⟩
 exact ⟨sa,sb,qxA h hP sa sb ((qyc h he).way h x.f0 x.fn) fun i=>Int.le_refl _⟩
theorem qxY {N : Nat} (hN : 500000000 <= N) (ns : List Nd) (es : List Ed) : (¬ GrOk ns es /\ ∀ a b,∃ c e,qaV N ((ns,es),a,b,()) = some (c,e,()) /\ e ≠ 0) \/
  (GrOk ns es /\ ∃ P,ReachOk ns es P /\ ∀ a b,∃ c e,qaV N ((ns,es),a,b,()) = some (c,e,()) /\ (e = 0 ↔ Sok ns a /\ Sok ns b) /\ (e = 0 -> (c = true ↔ could ns P a b))):=by
 rcases Of_eq hN ns es with ⟨c,p,h1,h2,h3⟩ | ⟨h,P,hP,hO⟩
 ·refine .inl ⟨h3,fun a b=>?_⟩
  obtain ⟨e,h4,h5⟩:=qxX hN h3 a b
  exact ⟨_,e,h4,h5⟩
 ·exact .inr ⟨h,P,hP,fun a b=>qzb hN h hP hO a b⟩
end
end Go.Proofs.YtgnnhemoocfclaaDoor.Rea
