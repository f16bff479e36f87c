import Derived.Test.YtgnnhemoocfclaaDoorReaE
import Derived.WalkKit
import Derived.OwnWalkIn
import Derived.TacticsInMore
import Derived.LoopNIn
import Derived.LoopIn
import Derived.Laws.IdiomRangeMap
import Derived.Test.YtgnnhemoocfclaaDoorAbsMp
import Derived.Test.YtgnnhemoocfclaaDoorAbsPtr
noncomputable section
namespace Go.Proofs.YtgnnhemoocfclaaDoor
open Go.Abs
abbrev SS:Sh:=.sl (.int .i64)
abbrev SQ:Sh:=.pair (.int .i64) (.pair (.int .i64) (.int .i64))
abbrev SN:Sh:=.pair (.int .i64) (.pair (.sl (.int .i64)) (.int .i64))
abbrev SK:Sh:=.pair (.int .i64) (.pair (.int .i64) (.pair (.int .i64) (.pair (.int .i64) (.int .i64))))
abbrev Yp:Type:=Int×Int×Int
abbrev Yo:Type:=Int×Int×Int×Int×Int
abbrev Yn:Type:=Int×List Int×Int
abbrev Ym:Type:=Int×(Int×Int×Int×Int×Int×Int)×Int
abbrev qem:List Kd:=[.dat (.int .i64),.dat SS]
abbrev qef:List Kd:=[.dat (.pair (.int .i64) SK)]
abbrev qiT:Type:=Dens qef
def qkx(_N:Nat):Ctx:={ T:=[(3,⟨.int .i64,1,8,some (.int .i64),[.int .i64 (0:Int)],false,[]⟩),(38,⟨.slice 3,1,24,some SS,[.nil],false,[]⟩),(122,⟨.array 4 3,4,32,some (.pair (.int .i64) SQ),[.int .i64 (0:Int),.int .i64 (0:Int),.int .i64 (0:Int),.int .i64 (0:Int)],false,[]⟩),(124,⟨.struct [(0,3),(1,3),(2,122)],6,48,some (.pair (.int .i64) SK),[.int .i64 (0:Int),.int .i64 (0:Int),.int .i64 (0:Int),.int .i64 (0:Int),.int .i64 (0:Int),.int .i64 (0:Int)],true,[]⟩)],G:=findE [],I:=findI [],N:=_N,n:=15,fx:=[],fl:=0,gs:=Gs }
def qpA(_N:Nat)(_x1:Int)(_x2:List Int):Option qiT:=
 (some ((_x1,((_x2.length:Int),((nth (0:Int) (cpy ([(0:Int),(0:Int),(0:Int),(0:Int)]:List Int) _x2) 0),((nth (0:Int) (cpy ([(0:Int),(0:Int),(0:Int),(0:Int)]:List Int) _x2) 1),((nth (0:Int) (cpy ([(0:Int),(0:Int),(0:Int),(0:Int)]:List Int) _x2) 2),(nth (0:Int) (cpy ([(0:Int),(0:Int),(0:Int),(0:Int)]:List Int) _x2) 3)))))),()))
def qdP(_N:Nat)(_x:Dens qem):Option qiT:=qpA _N _x.1 _x.2.1
theorem qnZ(_N:Nat):SpecD Tryd.prog Gs 81 qem qef (qdP _N):=mkSpD (fn:=Tryd.f81) (c:=qB Tryd.f81) (C:=qkx _N)
  (a:=.none)
  (by kernel_rfl) rfl (by kernel_rfl) (by kernel_rfl) ⟨rfl,by unfold TOk;kernel_rfl,qax rfl rfl (zD _),qaw rfl rfl (zD _),rfl⟩ (fun _x=>by kernel_rfl)
theorem qoz(_N:Nat):EntOk Tryd.prog Gs (mkP 81 qem qef (qdP _N)):=entP ⟨Tryd.f81,qB Tryd.f81,by kernel_rfl,by kernel_rfl,rfl⟩ (by kernel_rfl) (qnZ _N)
abbrev qdM:List Kd:=[.dat SN,.dat SN]
abbrev qdJ:List Kd:=[.dat (.int .i64)]
abbrev qdI:Type:=Dens qdJ
def qhE(_N:Nat):Ctx:={ T:=[(3,⟨.int .i64,1,8,some (.int .i64),[.int .i64 (0:Int)],false,[]⟩),(38,⟨.slice 3,1,24,some SS,[.nil],false,[]⟩),(75,⟨.struct [(0,3),(1,38),(2,2)],3,40,some SN,[.int .i64 (0:Int),.nil,.int .i64 (0:Int)],false,[]⟩)],G:=findE [mkP 64 qbe qbc (qac _N),mkP 65 qau qat (qQ _N),mkP 63 qdO qdL (qbl _N)],I:=findI [],N:=_N,n:=17,fx:=[],fl:=0,gs:=Gs }
def qdR(_N:Nat)(_x1:Int×List Int×Int)(_x2:Int×List Int×Int):Option qdI:=
 ((qac _N (_x1.1,_x2.1,())).bind fun _y4=>((qQ _N (_x1.2.1,_x2.2.1,())).bind fun _y5=>((qbl _N ([_y4.1,_y5.1],())).bind fun _y6=>(some (_y6.1,())))))
def qW(_N:Nat)(_x:Dens qdM):Option qdI:=qdR _N _x.1 _x.2.1
theorem qgX(_N:Nat):SpecD Tryd.prog Gs 62 qdM qdJ (qW _N):=mkSpD (fn:=Tryd.f62) (c:=qB Tryd.f62) (C:=qhE _N)
  (a:=.two .none (.two (.draw 1 [.pure,.rd [0],.pure,.rd [1],.pure,.pure,.rd [0],.pure,.rd [1],.pure,.new 2,.rd [2],.pure]) .none))
  (by kernel_rfl) rfl (by kernel_rfl) (by kernel_rfl) ⟨rfl,by unfold TOk;kernel_rfl,qax rfl rfl (zG.2 ⟨qdG _N,(zG.2 ⟨qcK _N,(zG.2 ⟨qkp _N,(zD _)⟩)⟩)⟩),qaw rfl rfl (zD _),rfl⟩ (fun _x=>by kernel_rfl)
shelf_lay_g SlLaysF0.n6 Slsf 6 at Tryd 61 as lay_sortMark
theorem qtq:qdm Tryd.prog 61:=⟨Tryd.f61,qB Tryd.f61,by kernel_rfl,by kernel_rfl,rfl⟩
theorem qtp:qdm Tryd.prog 62:=⟨Tryd.f62,qB Tryd.f62,by kernel_rfl,by kernel_rfl,rfl⟩
theorem qnB(_N:Nat):EntOk Tryd.prog Gs (mkS 61 75 SN 62 (fun p q=>(qW _N (p,q,())).map (·.1))):=entSK lay_sortMark Tryd.isAgg75 Tryd.sizeOf75 qtq qtp (by kernel_rfl) rfl (qgX _N)
theorem qvQ(w:World)(hg:GW Gs w):Calls Tryd.prog 61 #[.slice none 0 0,cloV 62 #[]] w fun e w'=>e=.returned (.tuple #[])/\Go.Abs.Below w.heap.size w w':=by
 obtain⟨nx,hv⟩:=qtc (E:={ P:=Tryd.prog,C:=qkx 0,r:=none,n:=0,w0:=w,A:=fun _=>False,M0:=fun _=>False,Kp:=fun _ _ _ _=>True }) (h:=[]) (w:=w) (σ:=σ0) (qpQ w (fun _ h=>h.elim)) 75 SN (by decide)
 have hs:sortR (fun p q=>(qW 0 (p,q,())).map (·.1)) ([]:List Yn)=some []:=by
  refine qmb ⟨by decide,fun a h=>(nomatch h),fun a h=>(nomatch h),fun a h=>(nomatch h),fun a h=>(nomatch h)⟩ ⟨.refl _,.nil⟩
 refine ((qnB 0).wr [.slc 0 0,.clo 62 []] [O.row false 0 75 SN []] _ _ [] (by rfl) rfl hs w (fun _=>False) (fun _=>False) w _ hg.gl nx.rep [.slice none 0 0,cloV 62 #[]] ?_).mono ?_
 ·simp only [RVs,RV] at hv ⊢
  exact⟨_,_,rfl,hv,_,_,rfl,⟨#[],rfl,rfl⟩,rfl⟩
 ·rintro e w' ⟨x,σ',rfl,nx',hx⟩
  simp only [RV,RVs] at hx
  obtain⟨cs,rfl,hc⟩:=hx
  have:cs = #[]:=by rw [<- Array.toList_inj];exact hc
  exact⟨by rw [this],nx'.rep.fr.below⟩
set_option maxRecDepth 100000 in
set_option maxHeartbeats 1500000 in
theorem quZ(w:World)(hg:GW Gs w):Calls Tryd.prog 48 #[.map none] w fun e w'=>e=.returned (.slice none 0 0)/\Go.Abs.Below w.heap.size w w':=by
 have hrg:=run_range_nilMap (P:=Tryd.prog) w 102 124 2 (by kernel_rfl)
 have hnx:∀ ty,(Instr.next (.pointer (some ⟨w.heap.size,0,none⟩)) false ty).run Tryd.prog (w.alloc (.mapIter none 0 #[] 0))=_:=fun ty=>run_next_nilMap w ty 0 0 #[]
 have hb:Go.Abs.Below w.heap.size w (w.alloc (.mapIter none 0 #[] 0)):=(Go.Abs.Below.refl _ _).alloc (Nat.le_refl _) _
 have hs:=qvQ _ (hg.below hb)
 go_enter Tryd.func48,Tryd.ntmps48
 go_wp2
 refine wp_loop_rounds 1 ?_
 rw [rounds_succ]
 go_wp2_with (refine hs.mono ?_;rintro e w' ⟨rfl,hb'⟩)
 go_ret
 exact⟨rfl,hb.trans (hb'.mono hb.size)⟩
theorem qxf:EntOk Tryd.prog Gs (mkNm 48 SN):=entNm ⟨Tryd.f48,qB Tryd.f48,by kernel_rfl,by kernel_rfl,rfl⟩ quZ
abbrev qcP:Sig:=⟨[.form (.ptr 0 1000000),.dat false SN],[.oth false ⟨false,124,2,.pair (.int .i64) SK,.int .i64,false⟩],
 [],[.oth false ⟨false,124,2,.pair (.int .i64) SK,.int .i64,false⟩],[]⟩
abbrev qeM:Type:=(Int×List Ym)
def qjy(_N:Nat):Ctx:={ T:=[(2,⟨.int .i64,1,8,some (.int .i64),[.int .i64 (0:Int)],false,[]⟩),(3,⟨.int .i64,1,8,some (.int .i64),[.int .i64 (0:Int)],false,[]⟩),(38,⟨.slice 3,1,24,some SS,[.nil],false,[]⟩),(75,⟨.struct [(0,3),(1,38),(2,2)],3,40,some SN,[.int .i64 (0:Int),.nil,.int .i64 (0:Int)],false,[]⟩),(102,⟨.map 124 2 (.pair (.int .i64) SK) (.int .i64),1,8,none,[.nl .map],false,[]⟩),(124,⟨.struct [(0,3),(1,3),(2,122)],6,48,some (.pair (.int .i64) SK),[.int .i64 (0:Int),.int .i64 (0:Int),.int .i64 (0:Int),.int .i64 (0:Int),.int .i64 (0:Int),.int .i64 (0:Int)],true,[]⟩)],G:=findE [mkP 81 qem qef (qdP _N)],I:=findI [],N:=_N,n:=24,fx:=[],fl:=1,gs:=Gs }
def qfc(_N:Nat)(_x1:Int×List Int×Int)(_x2:Int×List Ym):Option qeM:=
 ((qdP _N (_x1.1,_x1.2.1,())).bind fun _y2=>(bif (qhe (.pair (.int .i64) SK) (.int .i64) (mpEnt (.pair (.int .i64) SK) (.int .i64) _x2 (_y2.1.1,(_y2.1.2.1,(_y2.1.2.2.1,(_y2.1.2.2.2.1,(_y2.1.2.2.2.2.1,_y2.1.2.2.2.2.2)))))) (qey (.pair (.int .i64) SK) (.int .i64) _x2 (_y2.1.1,(_y2.1.2.1,(_y2.1.2.2.1,(_y2.1.2.2.2.1,(_y2.1.2.2.2.2.1,_y2.1.2.2.2.2.2))))))) then (bif ((mpGet (.pair (.int .i64) SK) (.int .i64) (mpAt (.pair (.int .i64) SK) (.int .i64) (mpEnt (.pair (.int .i64) SK) (.int .i64) _x2 (_y2.1.1,(_y2.1.2.1,(_y2.1.2.2.1,(_y2.1.2.2.2.1,(_y2.1.2.2.2.2.1,_y2.1.2.2.2.2.2)))))) (qey (.pair (.int .i64) SK) (.int .i64) _x2 (_y2.1.1,(_y2.1.2.1,(_y2.1.2.2.1,(_y2.1.2.2.2.1,(_y2.1.2.2.2.2.1,_y2.1.2.2.2.2.2)))))) (IntKind.i64.wrap ((mpGet (.pair (.int .i64) SK) (.int .i64) _x2 (_y2.1.1,(_y2.1.2.1,(_y2.1.2.2.1,(_y2.1.2.2.2.1,(_y2.1.2.2.2.2.1,_y2.1.2.2.2.2.2))))))+_x1.2.2))) (_y2.1.1,(_y2.1.2.1,(_y2.1.2.2.1,(_y2.1.2.2.2.1,(_y2.1.2.2.2.2.1,_y2.1.2.2.2.2.2))))))==(0:Int)) then (some (mpDel (.pair (.int .i64) SK) (.int .i64) (mpAt (.pair (.int .i64) SK) (.int .i64) (mpEnt (.pair (.int .i64) SK) (.int .i64) _x2 (_y2.1.1,(_y2.1.2.1,(_y2.1.2.2.1,(_y2.1.2.2.2.1,(_y2.1.2.2.2.2.1,_y2.1.2.2.2.2.2)))))) (qey (.pair (.int .i64) SK) (.int .i64) _x2 (_y2.1.1,(_y2.1.2.1,(_y2.1.2.2.1,(_y2.1.2.2.2.1,(_y2.1.2.2.2.2.1,_y2.1.2.2.2.2.2)))))) (IntKind.i64.wrap ((mpGet (.pair (.int .i64) SK) (.int .i64) _x2 (_y2.1.1,(_y2.1.2.1,(_y2.1.2.2.1,(_y2.1.2.2.2.1,(_y2.1.2.2.2.2.1,_y2.1.2.2.2.2.2))))))+_x1.2.2))) (_y2.1.1,(_y2.1.2.1,(_y2.1.2.2.1,(_y2.1.2.2.2.1,(_y2.1.2.2.2.2.1,_y2.1.2.2.2.2.2))))))) else (some (mpAt (.pair (.int .i64) SK) (.int .i64) (mpEnt (.pair (.int .i64) SK) (.int .i64) _x2 (_y2.1.1,(_y2.1.2.1,(_y2.1.2.2.1,(_y2.1.2.2.2.1,(_y2.1.2.2.2.2.1,_y2.1.2.2.2.2.2)))))) (qey (.pair (.int .i64) SK) (.int .i64) _x2 (_y2.1.1,(_y2.1.2.1,(_y2.1.2.2.1,(_y2.1.2.2.2.1,(_y2.1.2.2.2.2.1,_y2.1.2.2.2.2.2)))))) (IntKind.i64.wrap ((mpGet (.pair (.int .i64) SK) (.int .i64) _x2 (_y2.1.1,(_y2.1.2.1,(_y2.1.2.2.1,(_y2.1.2.2.2.1,(_y2.1.2.2.2.2.1,_y2.1.2.2.2.2.2))))))+_x1.2.2))))) else none))
def qaR(_N:Nat)(_x:Yn×(Int×List Ym)):Option qeM:=qfc _N _x.1 _x.2
theorem qiD(_N:Nat):SpecH Tryd.prog Gs 60 qcP (qaR _N):=mkSpH (fn:=Tryd.f60) (c:=qB Tryd.f60) (C:=(qjy _N))
  (a:=.two .none (.two .none (.two (.draw 0 [.pure,.rd [2],.rd [0],.pure,.rd [1],.pure,.wr [0],.pure,.wr [0]]) .none)))
  (by kernel_rfl) rfl (by kernel_rfl) (by kernel_rfl) (by kernel_rfl) rfl ⟨rfl,by unfold TOk;kernel_rfl,qax rfl rfl (zG.2 ⟨qoz _N,(zD _)⟩),qaw rfl rfl (zD _),rfl⟩ (fun _x=>by kernel_rfl)
theorem qiG(_N:Nat):EntOk Tryd.prog Gs (mkHe 60 qcP (qaR _N)):=entH ⟨Tryd.f60,qB Tryd.f60,by kernel_rfl,by kernel_rfl,rfl⟩ (qiD _N)
abbrev qeI:Sig:=⟨[.dat false (.pair (.sl SK) (.sl SQ)),.dat false (.sl SN)],[],
 [.form (.nl .map),.dat false (.int .i64)],[],[([.form (.ptr 1 1000000),.dat false (.int .i64)],[.none,.oth false ⟨false,124,2,.pair (.int .i64) SK,.int .i64,false⟩])]⟩
abbrev qbt:Type:=Int ⊕ (Int×(Int×List Ym))
def qnS(_N:Nat):Ctx:={ T:=[(2,⟨.int .i64,1,8,some (.int .i64),[.int .i64 (0:Int)],false,[]⟩),(3,⟨.int .i64,1,8,some (.int .i64),[.int .i64 (0:Int)],false,[]⟩),(25,⟨.struct [(0,22),(1,23)],2,48,some (.pair (.sl SK) (.sl SQ)),[.nil,.nil],false,[]⟩),(38,⟨.slice 3,1,24,some SS,[.nil],false,[]⟩),(52,⟨.struct [(0,3),(1,38)],2,32,some (.pair (.int .i64) SS),[.int .i64 (0:Int),.nil],false,[]⟩),(70,⟨.slice 75,1,24,some (.sl SN),[.nil],false,[]⟩),(75,⟨.struct [(0,3),(1,38),(2,2)],3,40,some SN,[.int .i64 (0:Int),.nil,.int .i64 (0:Int)],false,[]⟩),(102,⟨.map 124 2 (.pair (.int .i64) SK) (.int .i64),1,8,none,[.nl .map],false,[]⟩)],G:=findE [mkP 38 qep qei (qcI _N),mkHe 60 qcP (qaR _N)],I:=findI [],N:=_N,n:=43,fx:=[],fl:=0,gs:=Gs }
def qhG(_N:Nat)(_v11:Int×List Ym):Option qbt:=
 (some (Sum.inr ((0:Int),_v11)))
def qfb(_N:Nat)(_k12:(Int×List Ym)->Option qbt)(_v1:List Yn)(_v2:Int)(_v4:List Yo)(_v5:List Yp)(_v3:Int)(_v6:Int×List Ym)(_kn13:((List Yn)×Int×(List Yo)×(List Yp))×(Int×(Int×List Ym))->Option qbt):Option qbt:=
 (bif (decide (_v3<_v2)) then (bif (decide (0<=_v3)&&decide (_v3<(_v1.length:Int))) then ((qcI _N ((_v4,_v5),((nth ((0:Int),([],(0:Int))) _v1 (_v3).toNat).1,((nth ((0:Int),([],(0:Int))) _v1 (_v3).toNat).2).1),())).bind fun _y14=>(bif (_y14.1 != (0:Int)) then (some (Sum.inl _y14.1)) else (bif (decide ((((nth ((0:Int),([],(0:Int))) _v1 (_v3).toNat).2).2)<(-1099511627776:Int))) then (some (Sum.inl (2:Int))) else (bif (decide ((((nth ((0:Int),([],(0:Int))) _v1 (_v3).toNat).2).2)>(1099511627776:Int))) then (some (Sum.inl (2:Int))) else ((qaR _N (((nth ((0:Int),([],(0:Int))) _v1 (_v3).toNat).1,(((nth ((0:Int),([],(0:Int))) _v1 (_v3).toNat).2).1,((nth ((0:Int),([],(0:Int))) _v1 (_v3).toNat).2).2)),_v6)).bind fun _y15=>(_kn13 ((_v1,_v2,_v4,_v5),((IntKind.i64.wrap (_v3+(1:Int))),_y15)))))))) else none) else (_k12 _v6))
def qhF(_N:Nat)(_x1:List Yo×List Yp)(_x2:List Yn):Option qbt:=
 (bif (decide ((_x2.length:Int)>(64:Int))) then (some (Sum.inl (1:Int))) else (joinD (fun (_s:(Int×List Ym))=>qhG _N _s) fun _k12=>(loopE (fun (_c:(List Yn)×Int×(List Yo)×(List Yp)) (_s:Int×(Int×List Ym)) _kn=>qfb _N _k12 _c.1 _c.2.1 _c.2.2.1 _c.2.2.2 _s.1 _s.2 _kn) _N (_x2,(_x2.length:Int),_x1.1,_x1.2) ((0:Int),((0:Int),([]:List Ym))))))
def qba(_N:Nat)(_x:(List Yo×List Yp)×(List Yn)):Option qbt:=qhF _N _x.1 _x.2
theorem qlK(_N:Nat):SpecH Tryd.prog Gs 47 qeI (qba _N):=mkSpH (fn:=Tryd.f47) (c:=qB Tryd.f47) (C:=(qnS _N))
  (a:=.two .none (.two .none (.two .none (.join 2 ⟨[(6,.ptr 1 1000000)],[.none,.oth false ⟨false,124,2,.pair (.int .i64) SK,.int .i64,false⟩]⟩ (.two .none (.one (.loop 2 ⟨[(2,.ptr 0 0),(6,.ptr 1 1000000),(14,.sl SN),(15,.int .i64),(16,.int .i64)],[.cells [.sl SK,.sl SQ],.oth false ⟨false,124,2,.pair (.int .i64) SK,.int .i64,false⟩]⟩ [2,5] .none))) .none))))
  (by kernel_rfl) rfl (by kernel_rfl) (by kernel_rfl) (by kernel_rfl) rfl ⟨rfl,by unfold TOk;kernel_rfl,qax rfl rfl (zG.2 ⟨qoC _N,(zG.2 ⟨qiG _N,(zD _)⟩)⟩),qaw rfl rfl (zD _),rfl⟩ (fun _x=>by kernel_rfl)
theorem qlU(_N:Nat):EntOk Tryd.prog Gs (mkHe 47 qeI (qba _N)):=entH ⟨Tryd.f47,qB Tryd.f47,by kernel_rfl,by kernel_rfl,rfl⟩ (qlK _N)
abbrev qcm:Sig:=⟨[.form (.ptr 0 1000000)],[.oth false ⟨false,124,2,.pair (.int .i64) SK,.int .i64,false⟩],
 [.dat false (.sl SN)],[.oth true ⟨false,124,2,.pair (.int .i64) SK,.int .i64,false⟩],[]⟩
abbrev qaA:Type:=(List Yn)×(Int×List Ym)
def qin(_N:Nat):Ctx:={ T:=[(2,⟨.int .i64,1,8,some (.int .i64),[.int .i64 (0:Int)],false,[]⟩),(3,⟨.int .i64,1,8,some (.int .i64),[.int .i64 (0:Int)],false,[]⟩),(38,⟨.slice 3,1,24,some SS,[.nil],false,[]⟩),(70,⟨.slice 75,1,24,some (.sl SN),[.nil],false,[]⟩),(75,⟨.struct [(0,3),(1,38),(2,2)],3,40,some SN,[.int .i64 (0:Int),.nil,.int .i64 (0:Int)],false,[]⟩),(102,⟨.map 124 2 (.pair (.int .i64) SK) (.int .i64),1,8,none,[.nl .map],false,[]⟩),(122,⟨.array 4 3,4,32,some (.pair (.int .i64) SQ),[.int .i64 (0:Int),.int .i64 (0:Int),.int .i64 (0:Int),.int .i64 (0:Int)],false,[]⟩),(124,⟨.struct [(0,3),(1,3),(2,122)],6,48,some (.pair (.int .i64) SK),[.int .i64 (0:Int),.int .i64 (0:Int),.int .i64 (0:Int),.int .i64 (0:Int),.int .i64 (0:Int),.int .i64 (0:Int)],true,[]⟩)],G:=findE [mkS 61 75 SN 62 (fun p q=>(qW _N (p,q,())).map (·.1)),mkQ 35 qab [.dat SS] (fun _x=>(qF _N _x).map fun _y=>(_y,()))],I:=findI [],N:=_N,n:=28,fx:=[2],fl:=1,gs:=Gs }
def qev(_N:Nat)(_v13:Int×List Ym)(_v14:List Yn):Option qaA:=
 ((sortR (fun p q=>(qW _N (p,q,())).map (·.1)) _v14).bind fun _y16=>(some (_y16,_v13)))
def qeu(_N:Nat)(_k17:((Int×List Ym)×(List Yn))->Option qaA)(_v1:Int×List Ym)(_v2:Int×List Ym)(_v6:List Yn)(_kn18:(Int×List Ym)×((Int×List Ym)×(List Yn))->Option qaA):Option qaA:=
 (nextE (k:=.pair (.int .i64) SK) (v:=.int .i64) _v2 (_k17 (_v1,_v6)) (fun _y19=>fun _y20=>(bif (decide (0<=(((_y19.2.1.1,(_y19.2.1.2.1,(_y19.2.1.2.2.1,(_y19.2.1.2.2.2.1,(_y19.2.1.2.2.2.2.1,_y19.2.1.2.2.2.2.2))))).2).1))&&decide ((((_y19.2.1.1,(_y19.2.1.2.1,(_y19.2.1.2.2.1,(_y19.2.1.2.2.2.1,(_y19.2.1.2.2.2.2.1,_y19.2.1.2.2.2.2.2))))).2).1)<=(([(((_y19.2.1.1,(_y19.2.1.2.1,(_y19.2.1.2.2.1,(_y19.2.1.2.2.2.1,(_y19.2.1.2.2.2.2.1,_y19.2.1.2.2.2.2.2))))).2).2).1,((((_y19.2.1.1,(_y19.2.1.2.1,(_y19.2.1.2.2.1,(_y19.2.1.2.2.2.1,(_y19.2.1.2.2.2.2.1,_y19.2.1.2.2.2.2.2))))).2).2).2).1,(((((_y19.2.1.1,(_y19.2.1.2.1,(_y19.2.1.2.2.1,(_y19.2.1.2.2.2.1,(_y19.2.1.2.2.2.2.1,_y19.2.1.2.2.2.2.2))))).2).2).2).2).1,(((((_y19.2.1.1,(_y19.2.1.2.1,(_y19.2.1.2.2.1,(_y19.2.1.2.2.2.1,(_y19.2.1.2.2.2.2.1,_y19.2.1.2.2.2.2.2))))).2).2).2).2).2]:List Int).length:Int))) then (((fun _x=>(qF _N _x).map fun _y=>(_y,())) ((([(((_y19.2.1.1,(_y19.2.1.2.1,(_y19.2.1.2.2.1,(_y19.2.1.2.2.2.1,(_y19.2.1.2.2.2.2.1,_y19.2.1.2.2.2.2.2))))).2).2).1,((((_y19.2.1.1,(_y19.2.1.2.1,(_y19.2.1.2.2.1,(_y19.2.1.2.2.2.1,(_y19.2.1.2.2.2.2.1,_y19.2.1.2.2.2.2.2))))).2).2).2).1,(((((_y19.2.1.1,(_y19.2.1.2.1,(_y19.2.1.2.2.1,(_y19.2.1.2.2.2.1,(_y19.2.1.2.2.2.2.1,_y19.2.1.2.2.2.2.2))))).2).2).2).2).1,(((((_y19.2.1.1,(_y19.2.1.2.1,(_y19.2.1.2.2.1,(_y19.2.1.2.2.2.1,(_y19.2.1.2.2.2.2.1,_y19.2.1.2.2.2.2.2))))).2).2).2).2).2]:List Int).take (((_y19.2.1.1,(_y19.2.1.2.1,(_y19.2.1.2.2.1,(_y19.2.1.2.2.2.1,(_y19.2.1.2.2.2.2.1,_y19.2.1.2.2.2.2.2))))).2).1).toNat),())).bind fun _y21=>(bif (decide ((_v6.length+([((_y19.2.1.1,(_y19.2.1.2.1,(_y19.2.1.2.2.1,(_y19.2.1.2.2.2.1,(_y19.2.1.2.2.2.2.1,_y19.2.1.2.2.2.2.2))))).1,(_y21.1,_y19.2.2))]).length)*40<=140737488355328)&&Nat.ble 1 40) then (_kn18 (_v1,(((1:Int),_y19 :: _y20),(_v6 ++ [((_y19.2.1.1,(_y19.2.1.2.1,(_y19.2.1.2.2.1,(_y19.2.1.2.2.2.1,(_y19.2.1.2.2.2.2.1,_y19.2.1.2.2.2.2.2))))).1,(_y21.1,_y19.2.2))])))) else none)) else none)))
def qet(_N:Nat)(_x1:Int×List Ym):Option qaA:=
 (joinD (fun (_s:(Int×List Ym)×(List Yn))=>qev _N _s.1 _s.2) fun _k17=>(loopE (fun (_c:(Int×List Ym)) (_s:(Int×List Ym)×(List Yn)) _kn=>qeu _N _k17 _c _s.1 _s.2 _kn) _N _x1 (((0:Int),_x1.2),[])))
def qao(_N:Nat)(_x:(Int×List Ym)):Option qaA:=qet _N _x
theorem qhC(_N:Nat):SpecH Tryd.prog Gs 48 qcm (qao _N):=mkSpH (fn:=Tryd.f48) (c:=qB Tryd.f48) (C:=(qin _N))
  (a:=.two .none (.two .none (.join 3 ⟨[(3,.slc 2 0)],[.oth true ⟨false,124,2,.pair (.int .i64) SK,.int .i64,false⟩,.none,.row false 0 75 SN]⟩ (.two .none (.one (.obj 3 75 SN (.loop 3 ⟨[(3,.slc 2 0),(7,.ptr 1 1000000)],[.oth true ⟨false,124,2,.pair (.int .i64) SK,.int .i64,false⟩,.oth false ⟨true,124,2,.pair (.int .i64) SK,.int .i64,false⟩,.row false 0 75 SN]⟩ [1,2] (.two .nx (.two .none (.one (.two .none (.giv 4 (.pair (.int .i64) SK) (.draw 1 [.pure,.pure,.pure,.pure,.pure,.pure,.pure,.pure,.pure,.pure,.new 4,.wr [2,4],.pure])))))))))) .none)))
  (by kernel_rfl) rfl (by kernel_rfl) (by kernel_rfl) (by kernel_rfl) rfl ⟨rfl,by unfold TOk;kernel_rfl,qax rfl rfl (zG.2 ⟨qnB _N,(zG.2 ⟨qgp _N,(zD _)⟩)⟩),qaw rfl rfl (zD _),rfl⟩ (fun _x=>by kernel_rfl)
theorem qhD(_N:Nat):EntOk Tryd.prog Gs (mkHe 48 qcm (qao _N)):=entH ⟨Tryd.f48,qB Tryd.f48,by kernel_rfl,by kernel_rfl,rfl⟩ (qhC _N)
abbrev qbN:List Kd:=[.dat (.pair (.sl SK) (.sl SQ)),.dat (.sl SN)]
abbrev qbL:List Kd:=[.dat (.sl SN),.dat (.int .i64)]
abbrev qil:Type:=Dens qbL
def qoH(_N:Nat):Ctx:={ T:=[(25,⟨.struct [(0,22),(1,23)],2,48,some (.pair (.sl SK) (.sl SQ)),[.nil,.nil],false,[]⟩),(27,⟨.int .i64,1,8,some (.int .i64),[.int .i64 (0:Int)],false,[]⟩),(29,⟨.struct [(0,27),(1,3)],2,16,some (.pair (.int .i64) (.int .i64)),[.int .i64 (0:Int),.int .i64 (0:Int)],true,[]⟩)],G:=findE [mkHe 27 qhs (qcx _N),mkHe 47 qeI (qba _N),mkNm 48 SN,mkHe 48 qcm (qao _N)],I:=findI [],N:=_N,n:=29,fx:=[],fl:=0,gs:=Gs }
def qiK(_N:Nat)(_x1:List Yo×List Yp)(_x2:List Yn):Option qil:=
 ((qcx _N (_x1.1,_x1.2)).bind fun _y14=>(caseD _y14 (fun _y15=>(bif (_y15.1 != (0:Int)) then (some ([],_y15.1,())) else ((qba _N ((_x1.1,_x1.2),_x2)).bind fun _y17=>(caseD _y17 (fun _y18=>((some ()).bind fun _y20=>(some (([]:List Yn),_y18,())))) fun _y19=>((qao _N _y19.2).bind fun _y21=>(some (_y21.1,_y19.1,()))))))) fun _y16=>(bif (_y16.1.1 != (0:Int)) then (some ([],_y16.1.1,())) else ((qba _N ((_x1.1,_x1.2),_x2)).bind fun _y22=>(caseD _y22 (fun _y23=>((some ()).bind fun _y25=>(some (([]:List Yn),_y23,())))) fun _y24=>((qao _N _y24.2).bind fun _y26=>(some (_y26.1,_y24.1,()))))))))
def qaK(_N:Nat)(_x:Dens qbN):Option qil:=qiK _N _x.1 _x.2.1
theorem qhN(_N:Nat):SpecD Tryd.prog Gs 24 qbN qbL (qaK _N):=mkSpD (fn:=Tryd.f24) (c:=qB Tryd.f24) (C:=qoH _N)
  (a:=.two .none (.two (.two .none (.two .none (.two (.two (.draw 0 [.pure,.rd [1,6],.pure,.pure]) .none) .none))) .none))
  (by kernel_rfl) rfl (by kernel_rfl) (by kernel_rfl) ⟨rfl,by unfold TOk;kernel_rfl,qax rfl rfl (zG.2 ⟨qqB _N,(zG.2 ⟨qlU _N,(zG.2 ⟨qxf,(zG.2 ⟨qhD _N,(zD _)⟩)⟩)⟩)⟩),qaw rfl rfl (zD _),rfl⟩ (fun _x=>by kernel_rfl)
theorem qnA(_N:Nat):EntOk Tryd.prog Gs (mkD 24 qbN qbL (qaK _N)):=entD ⟨Tryd.f24,qB Tryd.f24,by kernel_rfl,by kernel_rfl,rfl⟩ (qhN _N)
theorem qlQ(_N:Nat):EntOk Tryd.prog Gs (mkQ 24 qbN qbL (qaK _N)):=entQ ⟨Tryd.f24,qB Tryd.f24,by kernel_rfl,by kernel_rfl,rfl⟩ (qhN _N)
end Go.Proofs.YtgnnhemoocfclaaDoor
namespace Go.Proofs.YtgnnhemoocfclaaDoor.Rea
open Go.Abs
open Go.Proofs.YtgnnhemoocfclaaDoor.Gh (Nd Ed nsum qaP GrOk qbJ)
abbrev Mk:Type:=Int×List Int×Int
abbrev K6:Type:=Int×Int×Int×Int×Int×Int
abbrev kS:Sh:=.pair (.int .i64) SK
abbrev vS:Sh:=.int .i64
abbrev kSn:noSl kS=true:=rfl
abbrev Kn:Type:=Int×List (Int×K6×Int)
def kk(a:Int)(t:List Int):K6:=(a,(t.length:Int),nth 0 (cpy ([0,0,0,0]:List Int) t) 0,nth 0 (cpy ([0,0,0,0]:List Int) t) 1,nth 0 (cpy ([0,0,0,0]:List Int) t) 2,nth 0 (cpy ([0,0,0,0]:List Int) t) 3)
theorem qyp(N:Nat)(a:Int)(t:List Int):qdP N (a,t,())=some (kk a t,()):=rfl
def kt(k:K6):List Int:=([k.2.2.1,k.2.2.2.1,k.2.2.2.2.1,k.2.2.2.2.2]:List Int).take k.2.1.toNat
theorem kt_kk{a:Int}{t:List Int}(h:t.length<=4):kt (kk a t)=t:=by
 rcases t with _ | ⟨x,_ | ⟨y,_ | ⟨z,_ | ⟨u,_ | ⟨v,r⟩⟩⟩⟩⟩
 ·rfl
 ·rfl
 ·rfl
 ·rfl
 ·rfl
 ·simp only [List.length_cons] at h;omega
theorem qyV{a b:Int}{t u:List Int}(ht:t.length<=4)(hu:u.length<=4)(h:kk a t=kk b u):a=b/\t=u:=by
 refine⟨congrArg Prod.fst h,?_⟩
 have:=congrArg kt h
 rwa [kt_kk ht,kt_kk hu] at this
def sumT:List Mk->Int->List Int->Int
 | [],_,_=>0
 | m :: r,a,t=>(if m.1=a/\m.2.1=t then m.2.2 else 0)+sumT r a t
theorem qgW(l r:List Mk)(a:Int)(t:List Int):sumT (l++r) a t=sumT l a t+sumT r a t:=by
 induction l with
 | nil=>simp [sumT]
 | cons m l ih=>simp only [List.cons_append,sumT,ih];omega
theorem qma(m:Mk)(a:Int)(t:List Int):sumT [m] a t=if m.1=a/\m.2.1=t then m.2.2 else 0:=by simp [sumT]
theorem qvL{l r:List Mk}(h:l.Perm r)(a:Int)(t:List Int):sumT l a t=sumT r a t:=by
 induction h with
 | nil=>rfl
 | cons x _ ih=>simp only [sumT,ih]
 | swap x y l=>simp only [sumT];omega
 | trans _ _ ih1 ih2=>rw [ih1,ih2]
theorem qkC{l:List Mk}(h:∀ m∈l,-1099511627776<=m.2.2/\m.2.2<=1099511627776)(a:Int)(t:List Int):-(l.length*1099511627776:Int)<=sumT l a t/\sumT l a t<=(l.length:Int)*1099511627776:=by
 induction l with
 | nil=>simp [sumT]
 | cons m l ih=>
  have h1:=ih fun m hm=>h m (by simp [hm])
  have h2:=h m (by simp)
  simp only [sumT,List.length_cons,Int.natCast_add,Int.add_mul]
  split <;> omega
structure KOk (l:List Mk) (d:Kn):Prop where
 ok:MpOk kS vS d
 nz:∀ e∈d.2,e.2.2≠0
 key:∀ e∈d.2,∃ a t,t.length<=4/\e.2.1=kk a t
 val:∀ a t,t.length<=4->mpGet kS vS d (kk a t)=sumT l a t
 len:d.2.length<=l.length
theorem KOk.empty:KOk [] ((0:Int),[]):=⟨MpOk.empty,(fun e h=>by cases h),(fun e h=>by cases h),fun a t _=>rfl,Nat.le_refl _⟩
theorem qzS{N:Nat}{l:List Mk}{d:Kn}(h:KOk l d)(m:Mk)(hm:m.2.1.length<=4)(hb:-9223372036854775808<=sumT l m.1 m.2.1+m.2.2/\sumT l m.1 m.2.1+m.2.2<=9223372036854775807) :
  ∃ d',qaR N (m,d)=some d'/\KOk (l ++ [m]) d':=by
 obtain⟨a,t,n⟩:=m
 dsimp only at hm hb
 have hs:qhe kS vS (mpEnt kS vS d (kk a t)) (qey kS vS d (kk a t))=true:=qrB (k:=kS) (v:=vS) d (kk a t)
 have hp:∀ y:Int,mpAt kS vS (mpEnt kS vS d (kk a t)) (qey kS vS d (kk a t)) y=mpPut kS vS d (kk a t) y:=fun y=>qyc (k:=kS) (v:=vS) h.ok (kk a t) y
 have hg:∀ y:Int,mpGet kS vS (mpPut kS vS d (kk a t) y) (kk a t)=y:=fun y=>qyb (k:=kS) (v:=vS) kSn d (kk a t) y
 have hee:((kk a t).1,(kk a t).2.1,(kk a t).2.2.1,(kk a t).2.2.2.1,(kk a t).2.2.2.2.1,(kk a t).2.2.2.2.2)=kk a t:=rfl
 have hw:IntKind.i64.wrap (sumT l a t+n)=sumT l a t+n:=w64 hb.1 hb.2
 simp only [qaR,qfc,qyp N a t,Option.bind_some,hee,hs,cond_true,hp,hg,h.val a t hm,hw]
 have hput:=h.ok.put kSn (kk a t) (sumT l a t+n)
 have hne:∀ z:K6,z≠kk a t->mpGet kS vS (mpPut kS vS d (kk a t) (sumT l a t+n)) z=mpGet kS vS d z:=fun z hz=>qmJ (k:=kS) (v:=vS) kSn d hz _
 have hold:∀ x∈(mpPut kS vS d (kk a t) (sumT l a t+n)).2,x.2.1≠kk a t->∃ y∈d.2,y.2.1=x.2.1/\y.2.2=x.2.2:=fun x hx hxe=>by
  obtain⟨g1,g2⟩:=qqf (k:=kS) (v:=vS) kSn hput hx
  rw [qmI (k:=kS) (v:=vS) kSn d hxe] at g1
  rw [qmJ (k:=kS) (v:=vS) kSn d hxe] at g2
  obtain⟨y,y1,y2,y3⟩:=qwN (k:=kS) (v:=vS) g1
  exact⟨y,y1,y2,y3.trans g2⟩
 have hkey:∀ x∈(mpPut kS vS d (kk a t) (sumT l a t+n)).2,∃ a t,t.length<=4/\x.2.1=kk a t:=fun x hx=>by
  by_cases hxe:x.2.1=kk a t
  ·exact⟨a,t,hm,hxe⟩
  ·obtain⟨y,y1,y2,-⟩:=hold x hx hxe
   obtain⟨b,u,hu,e⟩:=h.key y y1
   exact⟨b,u,hu,y2.symm.trans e⟩
 have hlen:=qzf (k:=kS) (v:=vS) d (kk a t) (sumT l a t+n)
 have hl1:=h.len
 have hval:∀ b u,u.length<=4->kk b u≠kk a t->mpGet kS vS d (kk b u)=sumT (l ++ [(a,t,n)]) b u:=fun b u hu hk=>by
  rw [h.val b u hu,qgW,qma,zK,zBl]
  rintro⟨e1,e2⟩
  exact hk (by rw [<- e1,<- e2])
 have hsame:sumT (l ++ [(a,t,n)]) a t=sumT l a t+n:=by rw [qgW,qma,zH ⟨rfl,rfl⟩]
 by_cases q:sumT l a t+n=0
 ·rw [show (sumT l a t+n==0)=true from beq_iff_eq.2 q,cond_true]
  refine⟨_,rfl,⟨hput.del (kk a t),fun x hx=>?_,fun x hx=>?_,fun b u hu=>?_,?_⟩⟩
  ·have hx':=(qhp (k:=kS) (v:=vS) (x:=kk a t) (mpPut kS vS d (kk a t) (sumT l a t+n)).2).subset hx
   have hxe:x.2.1≠kk a t:=fun hxe=>by
    obtain⟨g1,-⟩:=qqf (k:=kS) (v:=vS) kSn (hput.del (kk a t)) hx
    rw [hxe,qzB (k:=kS) (v:=vS) kSn hput] at g1
    cases g1
   obtain⟨y,y1,-,y3⟩:=hold x hx' hxe
   rw [<- y3];exact h.nz y y1
  ·exact hkey x ((qhp (k:=kS) (v:=vS) (x:=kk a t) (mpPut kS vS d (kk a t) (sumT l a t+n)).2).subset hx)
  ·by_cases hz:kk b u=kk a t
   ·obtain⟨rfl,rfl⟩:=qyV hu hm hz
    rw [qzC (k:=kS) (v:=vS) kSn hput,hsame,q];rfl
   ·rw [qvl (k:=kS) (v:=vS) _ hz,hne _ hz];exact hval b u hu hz
  ·refine zr (qzA (k:=kS) (v:=vS) (mpPut kS vS d (kk a t) (sumT l a t+n)) (kk a t)) (zr hlen ?_)
   rw [zS,zg];omega
 ·rw [show (sumT l a t+n==0)=false from zW q,cond_false]
  refine⟨_,rfl,⟨hput,fun x hx=>?_,hkey,fun b u hu=>?_,?_⟩⟩
  ·by_cases hxe:x.2.1=kk a t
   ·obtain⟨-,g2⟩:=qqf (k:=kS) (v:=vS) kSn hput hx
    rw [hxe,hg] at g2
    rw [<- g2];exact q
   ·obtain⟨y,y1,-,y3⟩:=hold x hx hxe
    rw [<- y3];exact h.nz y y1
  ·by_cases hz:kk b u=kk a t
   ·obtain⟨rfl,rfl⟩:=qyV hu hm hz
    rw [hg,hsame]
   ·rw [hne _ hz];exact hval b u hu hz
  ·rw [zS,zg];omega
structure MksOk (ns:List Nd) (l:List Mk):Prop where
 len:l.length<=64
 st:∀ m∈l,Sok ns (m.1,m.2.1)
 n:∀ m∈l,-1099511627776<=m.2.2/\m.2.2<=1099511627776
section
variable {ns : List Nd} {es : List Ed}
theorem qwJ{N:Nat}(hN:200000000<=N)(l:List Mk):(∃ e,qba N ((ns,es),l)=some (Sum.inl e)/\e≠0/\¬ MksOk ns l)\/(MksOk ns l/\∃ d,qba N ((ns,es),l)=some (Sum.inr (0,d))/\KOk l d):=by
 simp only [qba,qhF]
 by_cases hl:(l.length:Int)>64
 ·exact .inl ⟨1,by rw [qA hl,cond_true],by decide,fun h=>by have:=h.len;omega⟩
 rw [qK hl,cond_false]
 simp only [joinD,loopE]
 refine qoY (fun st:Int×Kn=>∃ i:Nat,st.1=(i:Int)/\i<=l.length/\KOk (l.take i) st.2/\∀ m∈l.take i,Sok ns (m.1,m.2.1) /\ -1099511627776<=m.2.2/\m.2.2<=1099511627776) (fun st=>l.length - st.1.toNat)
  (fun o=>(∃ e,o=some (Sum.inl e)/\e≠0/\¬ MksOk ns l)\/(MksOk ns l/\∃ d,o=some (Sum.inr (0,d))/\KOk l d)) ?_ N _ ⟨0,rfl,zy _,KOk.empty,fun m hm=>(nomatch hm)⟩ (by simp;omega)
 rintro⟨_,d⟩ ⟨i,rfl,hi,hd,hp⟩ kn hkn
 dsimp only at hd hkn ⊢
 by_cases hlt:i<l.length
 ·have hm:=qbI (z:=((0:Int),([]:List Int),(0:Int))) hlt
  obtain⟨e,h1,h2⟩:=qvw (ns:=ns) (es:=es) hN ((nth ((0:Int),([]:List Int),(0:Int)) l i).1,(nth ((0:Int),([]:List Int),(0:Int)) l i).2.1)
  have htk:l.take (i+1)=l.take i ++ [nth ((0:Int),([]:List Int),(0:Int)) l i]:=by rw [zAD hlt,qcU hlt]
  simp only [qfb,lt_d hlt,ge0_d,Bool.and_self,cond_true,Int.toNat_natCast]
  have hmm:((nth ((0:Int),([]:List Int),(0:Int)) l i).1,(nth ((0:Int),([]:List Int),(0:Int)) l i).2.1,(nth ((0:Int),([]:List Int),(0:Int)) l i).2.2)=(nth ((0:Int),([]:List Int),(0:Int)) l i):=rfl
  simp only [h1,Option.bind_some,hmm]
  by_cases q1:e=0
  case neg=>exact .inl ⟨e,by rw [bne_iff_ne.2 q1,cond_true],q1,fun h=>q1 (h2.2 (h.st _ hm))⟩
  have hst:=h2.1 q1
  rw [q1,bne_self_eq_false,cond_false]
  by_cases q2:(nth ((0:Int),([]:List Int),(0:Int)) l i).2.2 < -1099511627776
  ·exact .inl ⟨2,by rw [qA q2,cond_true],by decide,fun h=>by have:=(h.n _ hm).1;omega⟩
  by_cases q3:(nth ((0:Int),([]:List Int),(0:Int)) l i).2.2>1099511627776
  ·exact .inl ⟨2,by rw [qK q2,qA q3,cond_true,cond_false],by decide,fun h=>by have:=(h.n _ hm).2;omega⟩
  rw [qK q2,qK q3,cond_false,cond_false]
  have hbd:=qkC (fun m hm=>(hp m hm).2) (nth ((0:Int),([]:List Int),(0:Int)) l i).1 (nth ((0:Int),([]:List Int),(0:Int)) l i).2.1
  have hlen:(l.take i).length=i:=by rw [zq];omega
  rw [hlen] at hbd
  obtain⟨d',h3,h4⟩:=qzS (N:=N) hd (nth ((0:Int),([]:List Int),(0:Int)) l i) (qvH hst.tk).2 (by constructor <;> omega)
  simp only [h3,Option.bind_some,qU,ix1 hlt (show l.length<=1000000000 by omega)]
  refine hkn _ ⟨i+1,by simp,hlt,by rw [htk];exact h4,fun x hx=>?_⟩ (by simp;omega)
  rw [htk] at hx
  rcases zL.1 hx with hx | hx
  ·exact hp x hx
  ·rw [zO.1 hx];exact⟨hst,by omega,by omega⟩
 ·obtain rfl:i=l.length:=by omega
  rw [zAW] at hd hp
  simp only [qfb,qbr,cond_false,qhG]
  exact .inr ⟨⟨by omega,fun m hm=>(hp m hm).1,fun m hm=>(hp m hm).2⟩,d,rfl,hd⟩
end
def mcmp(p q:Mk):Int:=if (if p.1<q.1 then (-1:Int) else if q.1<p.1 then 1 else 0)=0 then lexc p.2.1 q.2.1 else if p.1<q.1 then -1 else if q.1<p.1 then 1 else 0
def mlt(p q:Mk):Prop:=p.1<q.1\/p.1=q.1/\lexc p.2.1 q.2.1<0
theorem qhf(p q:Mk):mcmp p q<0↔mlt p q:=by
 unfold mcmp mlt
 by_cases h1:p.1<q.1
 ·simp [h1]
 ·by_cases h2:q.1<p.1
  ·simp only [h1,h2,if_false,if_true];constructor
   ·intro h;simp at h
   ·rintro (h | ⟨h,-⟩)
    ·exact h.elim
    ·omega
  ·simp only [h1,h2,if_false,if_true,false_or]
   exact⟨fun h=>⟨by omega,h⟩,fun h=>h.2⟩
theorem qir(p:Mk):¬ mlt p p:=by
 rintro (h | ⟨-,h⟩)
 ·omega
 ·rw [qhZ] at h;omega
theorem qmK{p q r:Mk}(h1:mlt p q)(h2:mlt q r):mlt p r:=by
 rcases h1 with h1 | ⟨e1,h1⟩ <;> rcases h2 with h2 | ⟨e2,h2⟩
 ·exact .inl (by omega)
 ·exact .inl (by omega)
 ·exact .inl (by omega)
 ·exact .inr ⟨by omega,qkP h1 h2⟩
theorem qrC{p q:Mk}(h1:¬ mlt p q)(h2:¬ mlt q p):p.1=q.1/\p.2.1=q.2.1:=by
 unfold mlt at h1 h2
 have e:p.1=q.1:=by omega
 exact⟨e,qwB (fun h=>h1 (.inr ⟨e,h⟩)) (fun h=>h2 (.inr ⟨e.symm,h⟩))⟩
theorem qAk{N:Nat}(hN:10<=N)(a b:Int):qbl N ([a,b],())=some (if a=0 then b else a,()):=by
 obtain⟨M,rfl⟩:∃ M,N=M+3:=⟨N - 3,by omega⟩
 simp only [qbl,qig,joinD,loopE]
 have hb:∀ (K:Int->_) (i:Nat),i<([a,b]:List Int).length->∀ kn,qdt (M+3) K 0 [a,b] (([a,b]:List Int).length:Int) (i:Int) (backE ((0:Int),[a,b],(([a,b]:List Int).length:Int)) kn)=if nth 0 [a,b] i=0 then kn ((i:Int)+1) else some (nth 0 [a,b] i,()):=fun K i hi kn=>by
  have hi2:i<2:=hi
  simp only [qdt,lt_d hi,ge0_d,Int.toNat_natCast,Bool.and_self,cond_true,ix1 hi2 (by omega),qU]
  by_cases q:nth 0 [a,b] i=0
  ·rw [zH q,q,bne_self_eq_false];rfl
  ·rw [zK q,show (nth 0 [a,b] i != 0)=true from bne_iff_ne.2 q];rfl
 have h0:nth 0 [a,b] 0=a:=rfl
 have h1:nth 0 [a,b] 1=b:=rfl
 rw [lD2]
 have e0:=hb (fun s=>qeA (M+3) s) 0 (by simp)
 rw [h0] at e0
 refine (e0 _).trans ?_
 by_cases ha:a=0
 ·rw [zH ha,zH ha,lD2]
  have e1:=hb (fun s=>qeA (M+3) s) 1 (by simp)
  rw [h1] at e1
  refine (e1 _).trans ?_
  by_cases hbz:b=0
  ·rw [zH hbz,lD2]
   have:=qbr ([a,b]:List Int).length
   simp only [qdt]
   rw [show (((1:Nat):Int)+1)=(([a,b]:List Int).length:Int) from rfl,this,cond_false,qeA,hbz]
  ·rw [zK hbz]
 ·rw [zK ha,zK ha]
theorem qww{N:Nat}(hN:200000000<=N){p:Mk}(hp:p.2.1.length<=4)(q:Mk):qW N (p,q,())=some (mcmp p q,()):=by
 simp only [qW,qdR,quN N p.1 q.1,qpy hp hN,Option.bind_some,qAk (show 10<=N by omega),mcmp]
theorem qoO{N:Nat}(hN:200000000<=N){xs:List Mk}(hl:xs.length<4611686018427387904)(h4:∀ m∈xs,m.2.1.length<=4)(hn:(xs.map fun m=>(m.1,m.2.1)).Nodup) :
  ∃ ys:List Mk,sortR (fun p q=>(qW N (p,q,())).map (·.1)) xs=some ys/\ys.Perm xs/\ys.Pairwise mlt:=by
 have hlt:∀ a b:Mk,ltB (fun p q:Mk=>some (mcmp p q)) a b=decide (mcmp a b<0):=fun a b=>rfl
 have inj:∀ a∈xs,∀ b∈xs,a.1=b.1/\a.2.1=b.2.1->a=b:=fun a ha b hb e=>by
  obtain⟨i,hi,rfl⟩:=zAY ha
  obtain⟨j,hj,rfl⟩:=zAY hb
  have hij:i=j:=by
   have h1:(xs.map fun m:Mk=>(m.1,m.2.1))[i]'(by rw [zm];exact hi)=(xs.map fun m:Mk=>(m.1,m.2.1))[j]'(by rw [zm];exact hj):=by
    rw [List.getElem_map,List.getElem_map,e.1,e.2]
   have hp:=zAV.1 hn
   rcases zBk i j with h | h | h
   ·exact absurd h1 (hp i j (by rw [zm];exact hi) (by rw [zm];exact hj) h)
   ·exact h
   ·exact absurd h1.symm (hp j i (by rw [zm];exact hj) (by rw [zm];exact hi) h)
  subst hij;rfl
 have hok:SortOk (fun p q:Mk=>some (mcmp p q)) xs:=by
  refine⟨hl,fun a _ b _=>⟨mcmp a b,rfl⟩,fun a _=>by rw [hlt];exact qK (fun h=>qir a ((qhf a a).1 h)),fun a _ b _ c _ h1 h2=>?_,fun a ha b hb h1 h2=>?_⟩
  ·rw [hlt] at h1 h2 ⊢
   exact qA ((qhf _ _).2 (qmK ((qhf _ _).1 (zl h1)) ((qhf _ _).1 (zl h2))))
  ·rw [hlt] at h1 h2
   exact inj a ha b hb (qrC (fun h=>zAn h1 ((qhf _ _).2 h)) (fun h=>zAn h2 ((qhf _ _).2 h)))
 obtain⟨ys,h1,h2,h3⟩:=qtP hok
 refine⟨ys,qmp (fun a ha b hb=>by rw [qww hN (h4 a ha)];rfl) h1,h2,?_⟩
 have hny:(ys.map fun m=>(m.1,m.2.1)).Nodup:=(h2.map _).nodup_iff.2 hn
 have hny':ys.Pairwise fun a b=>(a.1,a.2.1)≠(b.1,b.2.1):=by rw [<- zAt];exact hny
 refine (h3.and hny').imp fun {a b} hab=>?_
 obtain⟨p1,p2⟩:=hab
 rw [hlt] at p1
 refine Classical.byContradiction fun hno=>p2 ?_
 obtain⟨e1,e2⟩:=qrC hno (fun h=>zAn p1 ((qhf _ _).2 h))
 rw [e1,e2]
structure Told (f:Int->List Int->Int) (L:List Mk):Prop where
 so:L.Pairwise mlt
 l4:∀ m∈L,m.2.1.length<=4
 mem:∀ a t n,t.length<=4->((a,t,n)∈L↔n=f a t/\n≠0)
theorem Told.uniq{f g:Int->List Int->Int}{L M:List Mk}(h:Told f L)(k:Told g M)(e:∀ a t,t.length<=4->f a t=g a t):L=M:=by
 have nd:∀ {L:List Mk},L.Pairwise mlt->L.Nodup:=fun h=>h.imp fun {a b} h e=>by subst e;exact qir a h
 refine qgY (r:=mlt) L M (fun a _ b _ h1 h2=>absurd (qmK h1 h2) (qir a)) ((List.perm_ext_iff_of_nodup (nd h.so) (nd k.so)).2 fun m=>?_) h.so k.so
 obtain⟨a,t,n⟩:=m
 constructor
 ·intro hm
  have h4:=h.l4 _ hm
  rw [k.mem a t n h4,<- e a t h4];exact (h.mem a t n h4).1 hm
 ·intro hm
  have h4:=k.l4 _ hm
  rw [h.mem a t n h4,e a t h4];exact (k.mem a t n h4).1 hm
def mkOf(e:Int×K6×Int):Mk:=(e.2.1.1,kt e.2.1,e.2.2)
theorem qyG{N:Nat}(hN:200000000<=N){l:List Mk}{d:Kn}(h:KOk l d)(hl:l.length<=1000) :
  ∃ out:List Mk,qao N d=some (out,d)/\Told (sumT l) out/\out.length<=l.length:=by
 have hdl:d.2.length<=1000:=zr h.len hl
 have hn:((d.2.map mkOf).map fun m=>(m.1,m.2.1)).Nodup:=by
  rw [List.map_map,List.Nodup,zAt]
  have hk:=h.ok.keys
  rw [List.Nodup,zAt] at hk
  refine hk.imp_of_mem fun {x y} hx hy hne e=>hne ?_
  obtain⟨a,t,ht,ex⟩:=h.key x hx
  obtain⟨b,u,hu,ey⟩:=h.key y hy
  simp only [Function.comp,mkOf,ex,ey,kt_kk ht,kt_kk hu] at e
  rw [ex,ey]
  have e1:a=b:=congrArg Prod.fst e
  have e2:t=u:=congrArg Prod.snd e
  rw [e1,e2]
 have h4:∀ m∈d.2.map mkOf,m.2.1.length<=4:=fun m hm=>by
  obtain⟨x,-,rfl⟩:=zt.1 hm
  simp only [mkOf,kt,zq,List.length_cons,List.length_nil]
  omega
 obtain⟨ys,s1,s2,s3⟩:=qoO hN (xs:=d.2.map mkOf) (by rw [zm];omega) h4 hn
 have hsort:∀ xs:List Mk,xs.Perm (d.2.map mkOf)->sortR (fun p q=>(qW N (p,q,())).map (·.1)) xs=some ys:=fun xs hp=>by
  obtain⟨zs,t1,t2,t3⟩:=qoO hN (xs:=xs) (by rw [hp.length_eq,zm];omega) (fun m hm=>h4 m (hp.subset hm)) ((hp.map _).nodup_iff.2 hn)
  rw [t1]
  exact congrArg some (qgY (r:=mlt) zs ys (fun a _ b _ h1 h2=>absurd (qmK h1 h2) (qir a)) ((t2.trans hp).trans s2.symm) t3 s3)
 refine⟨ys,?_,⟨s3,fun m hm=>h4 m (s2.subset hm),fun a t n ht=>?_⟩,by rw [s2.length_eq,zm];exact h.len⟩
 ·simp only [qao,qet,joinD,loopE]
  refine qoS (k:=kS) (v:=vS) (ys,d) (fun rest s=>(∃ sub:∀ x∈rest,x∈d.2,(s++rest.map mkOf).Perm (d.2.map mkOf))) (fun dd s kn hI hkn=>?_) N ((0:Int),d.2) [] ⟨fun x hx=>hx,.refl _⟩ (by show d.2.length<N;omega)
  obtain⟨hsub,hI⟩:=hI
  simp only [qeu]
  refine qwk (k:=kS) (v:=vS) (fun hr=>?_) (fun i x hx=>?_)
  ·rw [hr,List.map_nil,List.append_nil] at hI
   simp only [qev,hsort s hI,Option.bind_some]
  ·have hl:=hI.length_eq
   simp only [zS,zm] at hl
   have hpos:=(zT.1 hx).1
   have hxm:x∈restE dd:=zz hx
   obtain⟨a,t,ht,ex⟩:=h.key x (hsub x hxm)
   have e1:x.2.1.2.1=(t.length:Int):=by rw [ex];rfl
   have hcl:=qqG (N:=N) (a:=([x.2.1.2.2.1,x.2.1.2.2.2.1,x.2.1.2.2.2.2.1,x.2.1.2.2.2.2.2]:List Int).take x.2.1.2.1.toNat) (by rw [zq];simp only [List.length_cons,List.length_nil];omega)
   simp only [hcl,Option.map_some,Option.bind_some]
   have g1:decide ((0:Int)<=x.2.1.2.1)=true:=by
    rw [ex]
    exact decide_eq_true (p:=(0:Int)<=(t.length:Int)) (by omega)
   have g2:decide (x.2.1.2.1<=(([x.2.1.2.2.1,x.2.1.2.2.2.1,x.2.1.2.2.2.2.1,x.2.1.2.2.2.2.2]:List Int).length:Int))=true:=by
    rw [ex]
    exact decide_eq_true (p:=(t.length:Int)<=4) (by omega)
   rw [g1,g2,Bool.and_self,cond_true]
   rw [qA (by simp only [zg];omega),show Nat.ble 1 40=true from rfl,Bool.and_self,cond_true,qU]
   refine hkn x _ _ ⟨fun y hy=>hsub y (List.mem_of_mem_eraseIdx hy),?_⟩ (qxc hx)
   refine List.Perm.trans ?_ hI
   rw [zU]
   exact (qvj mkOf hx).append_left s
 ·rw [s2.mem_iff,zt]
  constructor
  ·rintro⟨x,hx,e⟩
   obtain⟨b,u,hu,ex⟩:=h.key x hx
   simp only [mkOf,ex,kt_kk hu,zN] at e
   obtain⟨e1,rfl,rfl⟩:=e
   have e1:b=a:=e1
   subst e1
   obtain⟨-,g2⟩:=qqf (k:=kS) (v:=vS) kSn h.ok hx
   rw [ex,h.val b u hu] at g2
   exact⟨g2.symm,h.nz x hx⟩
  ·rintro⟨rfl,hz⟩
   cases q:mpHas kS vS d (kk a t) with
   | true=>
    obtain⟨x,x1,x2,x3⟩:=qwN (k:=kS) (v:=vS) q
    refine⟨x,x1,?_⟩
    rw [h.val a t ht] at x3
    simp only [mkOf,x2,kt_kk ht,x3]
    rfl
   | false=>
    have:=qyv (k:=kS) (v:=vS) q
    rw [h.val a t ht] at this
    exact absurd this hz
theorem qtO{l:List Mk}{a:Int}{t:List Int}(h:sumT l a t≠0):∃ m∈l,m.1=a/\m.2.1=t:=by
 induction l with
 | nil=>exact absurd rfl h
 | cons m l ih=>
  simp only [sumT] at h
  by_cases e:m.1=a/\m.2.1=t
  ·exact⟨m,by simp,e⟩
  ·rw [zK e,Int.zero_add] at h
   obtain⟨x,h1,h2⟩:=ih h
   exact⟨x,by simp [h1],h2⟩
section
variable {ns : List Nd} {es : List Ed}
theorem qsI{N:Nat}(hN:500000000<=N)(ns:List Nd)(es:List Ed)(l:List Mk):(∃ e,qaK N ((ns,es),l,())=some ([],e,())/\e≠0/\¬ (GrOk ns es/\MksOk ns l)) \/
  (GrOk ns es/\MksOk ns l/\∃ L,qaK N ((ns,es),l,())=some (L,0,())/\Told (sumT l) L/\L.length<=64):=by
 simp only [qaK,qiK]
 rcases Of_eq hN ns es with⟨c,p,h1,h2,h3⟩ | ⟨h1,P,h2,h3⟩
 ·refine .inl ⟨c,?_,h1,fun h=>h3 h.1⟩
  simp only [h2,Option.bind_some,caseD]
  rw [bne_iff_ne.2 h1,cond_true]
 ·simp only [h3,Option.bind_some,caseD,bne_self_eq_false,cond_false]
  rcases qwJ (ns:=ns) (es:=es) (N:=N) (by omega) l with⟨e,k1,k2,k3⟩ | ⟨k1,d,k2,k3⟩
  ·refine .inl ⟨e,?_,k2,fun h=>k3 h.2⟩
   simp only [k1,Option.bind_some,caseD]
  ·obtain⟨out,m1,m2,m3⟩:=qyG (N:=N) (by omega) k3 (zr k1.len (by decide))
   refine .inr ⟨h1,k1,out,?_,m2,zr m3 k1.len⟩
   simp only [k2,Option.bind_some,caseD,m1]
end
end Go.Proofs.YtgnnhemoocfclaaDoor.Rea
end
