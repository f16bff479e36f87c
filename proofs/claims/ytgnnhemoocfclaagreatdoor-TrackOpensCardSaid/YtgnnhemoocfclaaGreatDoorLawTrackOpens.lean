import Derived.Test.YtgnnhemoocfclaaGreatDoorTrk
import Derived.Test.YtgnnhemoocfclaaGreatDoorFrame
noncomputable section
namespace Go.Proofs.YtgnnhemoocfclaaGreatDoor
open Go Go.ChangeShapes Go.WideShapes Go.ChangeAt Go.WideMaps Go.WideElems Go.RowKit Go.Abs
abbrev Sah:Sh:=.sl (.int .i64)
abbrev Sag:Sh:=.pair (.int .i64) (.pair (.sl (.int .i64)) (.int .i64))
abbrev Saf:Sh:=.pair (.int .i64) (.pair (.int .i64) (.int .i64))
abbrev YH:Type:=Int×List Int×Int
abbrev YG:Type:=List (List Int)
abbrev YF:Type:=Int×Int×Int
abbrev YE:Type:=Int×Int×Int×Int×Int
abbrev qiX:List Kd:=[.dat (.pair (.sl (.pair (.int .i64) (.pair (.int .i64) Saf))) (.sl Saf)),.dat (.sl Sag),.dat (.pair (.int .i64) Sah)]
abbrev qiS:List Kd:=[.dat (.bool)]
abbrev qbN:Type:=Dens qiS
def qpm(_N:Nat):Ctx:={ T:=[(2,⟨.int .i64,1,8,some (.int .i64),[.int .i64 (0:Int)],false,[]⟩),(3,⟨.int .i64,1,8,some (.int .i64),[.int .i64 (0:Int)],false,[]⟩),(4,⟨.bool,1,1,some .bool,[.bool false],false,[]⟩),(22,⟨.slice 68,1,24,some (.sl (.pair (.int .i64) (.pair (.int .i64) Saf))),[.nil],false,[]⟩),(25,⟨.struct [(0,22),(1,23)],2,48,some (.pair (.sl (.pair (.int .i64) (.pair (.int .i64) Saf))) (.sl Saf)),[.nil,.nil],false,[]⟩),(26,⟨.slice 43,1,24,some (.sl Sag),[.nil],false,[]⟩),(27,⟨.slice 3,1,24,some Sah,[.nil],false,[]⟩),(29,⟨.struct [(0,3),(1,27)],2,32,some (.pair (.int .i64) Sah),[.int .i64 (0:Int),.nil],false,[]⟩),(30,⟨.slice 45,1,24,some (.sl (.sl Sah)),[.nil],false,[]⟩),(31,⟨.int .i64,1,8,some (.int .i64),[.int .i64 (0:Int)],false,[]⟩),(39,⟨.struct [(0,31),(1,3)],2,16,some (.pair (.int .i64) (.int .i64)),[.int .i64 (0:Int),.int .i64 (0:Int)],true,[]⟩),(43,⟨.struct [(0,3),(1,27),(2,2)],3,40,some Sag,[.int .i64 (0:Int),.nil,.int .i64 (0:Int)],false,[]⟩),(45,⟨.slice 27,1,24,some (.sl Sah),[.nil],false,[]⟩)],G:=findE [mkQ 5 qfQ qfL (qcM _N),mkQ 6 qfO qfJ (qcL _N),mkP 7 qgG qgx (qbz _N),mkP 8 qel qef (qcy _N),mkP 9 qek qee (qcx _N),mkP 10 qhu qht (qdS _N)],I:=findI [],N:=_N,n:=114,fx:=[],fl:=0,gs:=Gs }
def qjD(_N:Nat)(_v17:List YG)(_v18:Bool)(_v19:List YE)(_v21:Int)(_v22:List Int):Option qbN:=
 (bif ((_v17.length:Int)==(_v19.length:Int)) then (bif (decide (0<=_v21)&&decide (_v21<(_v17.length:Int))) then ((qdS _N ((nth ([]) _v17 (_v21).toNat),_v22,())).bind fun _y29=>(some ((_y29.1==_v18),()))) else none) else (some (false,())))
def qgg(_N:Nat)(_k30:(List YG×Bool×(List YE)×(List YF)×Int×List Int)->Option qbN)(_v6:List YG)(_v8:List YH)(_v9:Int)(_v11:List YE)(_v12:List YF)(_v13:Int)(_v14:List Int)(_v7:Bool)(_v10:Int)(_kn31:(List YG×(List YH)×Int×(List YE)×(List YF)×Int×List Int)×(Bool×Int)->Option qbN):Option qbN:=
 (bif (decide (_v10<_v9)) then (bif (decide (0<=_v10)&&decide (_v10<(_v8.length:Int))) then ((qbz _N ((_v11,_v12),((nth ((0:Int),([],(0:Int))) _v8 (_v10).toNat).1,((nth ((0:Int),([],(0:Int))) _v8 (_v10).toNat).2).1),(_v13,_v14),())).bind fun _y32=>(bif _v7 then (_kn31 ((_v6,_v8,_v9,_v11,_v12,_v13,_v14),(true,(IntKind.i64.wrap (_v10+(1:Int)))))) else (bif (_y32.2.1==(0:Int)) then (bif _y32.1 then (_kn31 ((_v6,_v8,_v9,_v11,_v12,_v13,_v14),((decide ((((nth ((0:Int),([],(0:Int))) _v8 (_v10).toNat).2).2)>(0:Int))),(IntKind.i64.wrap (_v10+(1:Int)))))) else (_kn31 ((_v6,_v8,_v9,_v11,_v12,_v13,_v14),(false,(IntKind.i64.wrap (_v10+(1:Int))))))) else (_kn31 ((_v6,_v8,_v9,_v11,_v12,_v13,_v14),(false,(IntKind.i64.wrap (_v10+(1:Int))))))))) else none) else (_k30 (_v6,_v7,_v11,_v12,_v13,_v14)))
def qjC(_N:Nat)(_x1:List YE×List YF)(_x2:List YH)(_x3:Int×List Int):Option qbN:=
 ((qcM _N ((_x1.1,_x1.2),_x2,())).bind fun _y24=>((qcL _N ((_x1.1,_x1.2),_x2,())).bind fun _y25=>((qbz _N ((_x1.1,_x1.2),(_x3.1,_x3.2),(_x3.1,_x3.2),())).bind fun _y26=>((qcy _N ((_x1.1,_x1.2),())).bind fun _y27=>(bif (_y27.1.1 != (0:Int)) then (some ((_y26.2.1 != (0:Int)),())) else ((qcx _N ((_x1.1,_x1.2),_x3.1,_x3.2,())).bind fun _y28=>(bif (_y28.1 != (0:Int)) then (some ((_y26.2.1 != (0:Int)),())) else (bif (_y24.2.1 != (0:Int)) then (some ((_y24.2.1==_y25.2.1),())) else (bif (_y25.2.1 != (0:Int)) then (some ((_y24.2.1==_y25.2.1),())) else (bif (_y26.2.1 != (0:Int)) then (some ((_y24.2.1==_y25.2.1),())) else (joinD (fun (_s:List YG×Bool×(List YE)×(List YF)×Int×List Int)=>qjD _N _s.1 _s.2.1 _s.2.2.1 _s.2.2.2.2.1 _s.2.2.2.2.2) fun _k30=>(loopE (fun (_c:List YG×(List YH)×Int×(List YE)×(List YF)×Int×List Int) (_s:Bool×Int) _kn=>qgg _N _k30 _c.1 _c.2.1 _c.2.2.1 _c.2.2.2.1 _c.2.2.2.2.1 _c.2.2.2.2.2.1 _c.2.2.2.2.2.2 _s.1 _s.2 _kn) _N (_y24.1,_y25.1,(_y25.1.length:Int),_x1.1,_x1.2,_x3.1,_x3.2) (false,(0:Int))))))))))))))
def qgo(_N:Nat)(_x:Dens qiX):Option qbN:=qjC _N _x.1 _x.2.1 _x.2.2.1
theorem qnB(_N:Nat):SpecD Tryz.prog Gs 3 qiX qiS (qgo _N):=mkSpD (fn:=Tryz.f3) (c:=qj Tryz.f3) (C:=qpm _N)
  (a:=.two .none (.two .none (.two .none (.two .none (.two .none (.two .none (.two .none (.join 2 ⟨[(3,.ptr 0 0),(5,.ptr 1 0),(7,.sl (.sl Sah)),(13,.bool)],[.cells [.sl (.pair (.int .i64) (.pair (.int .i64) Saf)),.sl Saf],.cells [.int .i64,.sl (.int .i64)]]⟩ (.two .none (.one (.loop 2 ⟨[(3,.ptr 0 0),(5,.ptr 1 0),(7,.sl (.sl Sah)),(13,.bool),(65,.sl Sag),(66,.int .i64),(67,.int .i64)],[.cells [.sl (.pair (.int .i64) (.pair (.int .i64) Saf)),.sl Saf],.cells [.int .i64,.sl (.int .i64)]]⟩ [1,4] .none))) (.two (.draw 0 [.pure,.pure,.pure,.rd [0],.pure,.pure,.pure,.pure,.pure,.rd [1],.pure,.pure,.pure,.rd [1],.pure,.pure,.pure,.pure,.pure]) .none)))))))))
  (by kernel_rfl) rfl (by kernel_rfl) (by kernel_rfl) ⟨rfl,by unfold TOk;kernel_rfl,qag rfl rfl (zD.2 ⟨qqc _N,(zD.2 ⟨qqb _N,(zD.2 ⟨qtm _N,(zD.2 ⟨qpa _N,(zD.2 ⟨qoZ _N,(zD.2 ⟨qvt _N,(zC _)⟩)⟩)⟩)⟩)⟩)⟩),qaf rfl rfl (zC _),rfl⟩ (fun _x=>by kernel_rfl)
open Rea
open Gh (Nd Ed qaz GrOk nsum)
theorem law_TrackOpens(g:List Nd×List Ed)(l:List Mk)(s:Int×List Int)(_h1:wfS (.pair (.sl (.pair (.int .i64) (.pair (.int .i64) Saf))) (.sl Saf)) g)(_h2:wfS (.sl Sag) l)(_h3:wfS (.pair (.int .i64) Sah) s):∃ N,qgo N (g,l,s,())=some (true,()):=by
 obtain⟨ns,es⟩:=g
 obtain⟨N,hN⟩:∃ N:Nat,6000000000<=N:=⟨6000000000,Nat.le_refl _⟩
 refine⟨N,?_⟩
 obtain⟨c,p,e1,e2⟩:=Gh.GraphCheck_eq (N:=N) (by omega) ns es
 obtain⟨c2,h1,h2⟩:=qDp (N:=N) (by omega) ns es s.1 s.2
 simp only [qgo,qjC]
 rcases qDu (N:=N) (by omega) ns es with⟨hg,hB⟩ | ⟨hg,P0,hP0,hC0⟩
 ·obtain⟨b0,x0,k1,k2⟩:=hB (s.1,s.2) (s.1,s.2)
  have hc:c≠0:=fun h=>hg (e2.1 h)
  rcases qAd (N:=N) (by omega) ns es l with⟨e,t1,t2,t3,t4⟩ | ⟨hg',-⟩
  ·simp only [t1,t2,k1,e1,Option.bind_some]
   rw [bne_iff_ne.2 hc,cond_true,bne_iff_ne.2 k2]
  ·exact absurd hg' hg
 ·have hc:c=0:=e2.2 hg
  subst hc
  obtain⟨b0,x0,k1,k2,k3⟩:=hC0 (s.1,s.2) (s.1,s.2)
  rcases qAd (N:=N) (by omega) ns es l with⟨e,t1,t2,t3,t4⟩ | ⟨-,hm,L,P,f,t1,t2,t3,hP,hO,t4,t5,t6⟩
  ·simp only [t1,t2,k1,e1,h1,Option.bind_some,bne_self_eq_false,cond_false]
   by_cases q:c2=0
   ·subst q
    rw [bne_self_eq_false,cond_false,bne_iff_ne.2 t3,cond_true,zAX]
   ·rw [bne_iff_ne.2 q,cond_true,bne_iff_ne.2 (fun h=>q (h2.2 (k2.1 h).1))]
  ·simp only [t1,t4,k1,e1,h1,Option.bind_some,bne_self_eq_false,cond_false]
   by_cases q:c2=0
   case neg=>rw [bne_iff_ne.2 q,cond_true,bne_iff_ne.2 (fun h=>q (h2.2 (k2.1 h).1))]
   subst q
   have ss:=h2.1 rfl
   have hx0:=k2.2 ⟨ss,ss⟩
   subst hx0
   simp only [bne_self_eq_false,cond_false,joinD,loopE]
   have hL:=qBl hm t2
   obtain⟨cB,hcB⟩:∃ cB:Mk->Bool,∀ m,cB m=true↔(m.2.2>0/\could ns P (m.1,m.2.1) s):=⟨fun m=>@decide (m.2.2>0/\could ns P (m.1,m.2.1) s) (Classical.propDecidable _),fun m=>@decide_eq_true_iff _ (Classical.propDecidable _)⟩
   refine qcd (N:=N) L.length (fun i=>((L.take i).any cB,(i:Int))) (fun i hi kn=>?_) (fun kn=>?_) (by omega)
   ·have hmi:=qbt (z:=((0:Int),([]:List Int),(0:Int))) hi
    obtain⟨b1,x1,u1,u2,u3⟩:=qAh (N:=N) (by omega) hg hP hO ((nth ((0:Int),([]:List Int),(0:Int)) L i).1,(nth ((0:Int),([]:List Int),(0:Int)) L i).2.1) (s.1,s.2)
    have hx1:=u2.2 ⟨hL _ hmi,ss⟩
    subst hx1
    have hb:=hcB (nth ((0:Int),([]:List Int),(0:Int)) L i)
    have hb1:=u3 rfl
    have htk:(L.take (i+1)).any cB=((L.take i).any cB||cB (nth ((0:Int),([]:List Int),(0:Int)) L i)):=by
     rw [zb hi,List.any_append,qcD hi];simp
    simp only [qgg,lt_d hi,ge0_d,Bool.and_self,cond_true,Int.toNat_natCast,u1,Option.bind_some,qB,ix1 hi (show L.length<=1000000000 by omega),zAX,htk]
    cases (L.take i).any cB with
    | true=>rfl
    | false=>
     simp only [cond_false,Bool.false_or]
     cases b1 with
     | true=>
      have e:cB (nth ((0:Int),([]:List Int),(0:Int)) L i)=decide ((nth ((0:Int),([]:List Int),(0:Int)) L i).2.2>0):=by
       rw [zBJ,hb,zM]
       exact⟨fun h=>h.1,fun h=>⟨h,hb1.1 rfl⟩⟩
      rw [e];rfl
     | false=>
      have e:cB (nth ((0:Int),([]:List Int),(0:Int)) L i)=false:=by
       cases h:cB (nth ((0:Int),([]:List Int),(0:Int)) L i) with
       | false=>rfl
       | true=>exact absurd (hb1.2 (hb.1 h).2) (by simp)
      rw [e];rfl
   ·have hi:s.1.toNat<ns.length:=by have:=ss.a0;have:=ss.an;dsimp only at *;omega
    have e1:((s.1.toNat:Nat):Int)=s.1:=by have:=ss.a0;dsimp only at this;omega
    obtain⟨m1,m2⟩:=t6 s.1.toNat hi
    obtain⟨b,o1,o2⟩:=qAH (N:=N) (by omega) hg hP (qEJ hL) (s:=s) ss m1 m2
    simp only [qgg,qaE,cond_false,qjD,t5,zAX,cond_true,o1,Option.bind_some,zAJ]
    rw [qi (show 0<=s.1 from ss.a0),qi (show s.1<(ns.length:Int) from ss.an),Bool.and_self,cond_true]
    have e:b=L.any cB:=by
     rw [zBJ,o2,zAR]
     constructor
     ·rintro⟨a,ha,hc⟩
      obtain⟨n,n1,n2⟩:=qyh.1 ha
      exact⟨_,n1,(hcB _).2 ⟨n2,hc⟩⟩
     ·rintro⟨m,m1,m2⟩
      obtain⟨h1,h2⟩:=(hcB m).1 m2
      exact⟨(m.1,m.2.1),qyh.2 ⟨m.2.2,m1,h1⟩,h2⟩
    rw [e,zAX]
set_option maxRecDepth 100000 in
theorem lifted_TrackOpens(os:Os)(started:os.Started)(H:Type)(enc:TypeId×Value->H) :
  ReturnsInHanded {} Tryz.checked os 3 .any (fun w args=>(Rows.trackOpensSpec.pre enc Tryz.prog Tryz.f3 [] false w args/\laidMetH Tryz.prog Rows.trackOpensRow.laid w)/\sizedMet enc Tryz.prog Tryz.f3 (OpenSpec.ofChange Rows.trackOpensSpec) false w args) (Rows.trackOpensSpec.post enc Tryz.prog Tryz.f3 false true false false):=by
 refine returnsInHanded_of_change_and (C:=Tryz.checked) (X:=fun w _=>laidMetH Tryz.prog Rows.trackOpensRow.laid w) (fun _ _ _ hh h=>h.of_heap hh) own started (by kernel_rfl) Tryz.func3
  (ChangeSpec.witness_shaped (enc:=enc) (C:=Tryz.checked) (os:=os) (X:=fun w _=>laidMetH Tryz.prog Rows.trackOpensRow.laid w) false (World.doorLaid Tryz.prog 400 os) #[.agg #[.slice none 0 0,.slice none 0 0],.slice none 0 0,.agg #[.int .i64 0,.slice none 0 0]] 8 rfl (World.shaped_of_RefB (by kernel_rfl) (by kernel_rfl)) (by kernel_rfl) (by kernel_rfl) (by kernel_rfl) (door_met os _)) ?_
 intro W base args ds gs before hval0 hW _ hsz0 hL _
 have hgw:GW Gs W:=gw_of hL
 have hval:∀ (j:Nat) t v,Tryz.f3.params[j]? = some t->args[j]? = some v->Value.okWide Tryz.prog W .any base t v:=hval0
 have hW':=hW
 obtain⟨p,q,hA0,hV,rfl,_,_⟩:=hW
 have hA:DataW.TrodAll enc Tryz.prog W 0 (fun _=>true) true Tryz.f3.params.toList args.toList ds p:=hA0
 rw [Tryz.params3] at hA hval
 obtain⟨v0,vs0,d0,ds0,p0,q0,hargs,rfl,rfl,h0,r0⟩:=trodAll_cons hA
 obtain⟨v1,vs1,d1,ds1,p1,q1,rfl,rfl,rfl,h1,r1⟩:=trodAll_cons r0
 obtain⟨v2,vs2,d2,ds2,p2,q2,rfl,rfl,rfl,h2,r2⟩:=trodAll_cons r1
 obtain⟨rfl,rfl,rfl⟩:=trodAll_nil r2
 obtain rfl:args = #[v0,v1,v2]:=by cases args;simp_all
 obtain⟨rfl,rfl⟩:=trodVars_none hV
 have hall:=zf.1 hsz0
 clear hA0 hval0 hsz0
 simp only [List.append_nil] at hW'
 have hlt0:∀ x∈p0,x.block<W.heap.size:=fun x hx=>hW'.lt x (by simp [hx])
 have hlt1:∀ x∈p1,x.block<W.heap.size:=fun x hx=>hW'.lt x (by simp [hx])
 have hlt2:∀ x∈p2,x.block<W.heap.size:=fun x hx=>hW'.lt x (by simp [hx])
 obtain⟨x0,g0,w0⟩:=qyb (k:=.dat (.pair (.sl (.pair (.int .i64) (.pair (.int .i64) Saf))) (.sl Saf))) (by kernel_rfl) (hval 0 25 v0 rfl rfl) h0
 obtain⟨x1,g1,w1⟩:=qyb (k:=.dat (.sl Sag)) (by kernel_rfl) (hval 1 26 v1 rfl rfl) h1
 obtain⟨x2,g2,w2⟩:=qyb (k:=.dat (.pair (.int .i64) Sah)) (by kernel_rfl) (hval 2 29 v2 rfl rfl) h2
 obtain⟨N,hN⟩:=law_TrackOpens x0 x1 x2 w0 w1 w2
 refine (qnB N (fun _=>False) W (x0,x1,x2,()) (true,()) [v0,v1,v2] (fun _ h=>h.elim) hgw ⟨v0,_,rfl,g0,⟨v1,_,rfl,g1,⟨v2,_,rfl,g2,rfl⟩⟩⟩ hN).mono ?_
 rintro e W' ⟨v,rfl,hg,hr⟩
 replace hg:=hg.old
 have hr:v=.bool true:=by simpa only [kvals,retV,Kd.val,Go.Abs.enc,RV] using hr
 subst hr
 exact⟨_,rfl,_,_,_,[],p0++(p1++(p2 ++ [])),[],hW',(trodAll_cons_mk (shut_bool (show Tryz.prog.underlying 4=some .bool by kernel_rfl) _) trodAll_mk0),(trodAll_cons_mk (Below.trod laidOut (by kernel_rfl) (zt (by kernel_rfl)) h0 hg hlt0) (trodAll_cons_mk (Below.trod laidOut (by kernel_rfl) (zt (by kernel_rfl)) h1 hg hlt1) (trodAll_cons_mk (Below.trod laidOut (by kernel_rfl) (zt (by kernel_rfl)) h2 hg hlt2) trodAll_mk0))),rfl,hg.frame _,fun h=>by cases h⟩
theorem trackOpens_holds:Rows.TrackOpensSaid:=
 OpenClaim.holds_of_wide 3 Tryz.f3 rfl rfl rfl rfl rfl rfl rfl ⟨rfl,rfl,rfl,rfl,rfl⟩ rfl rfl rfl rfl rfl (by kernel_rfl) Tryz.func3 (by kernel_rfl)
  (zt (by kernel_rfl)) (by unfold Func.isWrapper;first | (rw [zH (by decide +kernel)];kernel_rfl) | (rw [zJ (by decide +kernel)];exact⟨rfl,rfl⟩))
  (fun os started H enc _=>lifted_TrackOpens os started H enc)
theorem trackOpens_card:Rows.TrackOpensCardSaid:=
 Claim7.holds_tied_plain_at .later [] [.data] true (true, "5fb6730809145aa88e6f66dc0995df30f2b37791de800d636984173ba9eaa620") false trackOpens_holds (fun _ h => by cases h) (by kernel_rfl) (fun _ h => by cases h) trackOpens_row_tie rfl ⟨rfl, rfl⟩ (by kernel_rfl) rfl
  (fun f fn hf hfn=>by
   obtain rfl : f = 3 := Option.some.inj ((show Tryz.prog.funcNamed "watershed/watershedkeep.TrackOpens" = some 3 by kernel_rfl).symm.trans hf) |>.symm
   obtain rfl:fn=Tryz.f3:=(zBe (Tryz.func3.symm.trans hfn)).symm
   exact⟨by kernel_rfl,fun j t ht=>by
    have h3:=zf.1 (show (Tryz.f3.params.toList.all fun t=>!(Tryz.prog.wantsStandIn t))=true by kernel_rfl) t (by rw [<- zr] at ht;exact zAB ht)
    have h4:Tryz.prog.wantsStandIn t=false:=by simpa using h3
    exact h4⟩)
  (by kernel_rfl)
end Go.Proofs.YtgnnhemoocfclaaGreatDoor
end
