import Derived.Test.YtcjecibocjbdmaaQueT
import Derived.Test.YtcjecibocjbdmaaFrame0
noncomputable section
namespace Go.Proofs.Ytcjecibocjbdmaa
open Go Go.ChangeShapes Go.WideShapes Go.ChangeAt Go.WideMaps Go.WideElems Go.RowKit Go.Abs
abbrev Sr:Sh:=.sl (.int .i64)
abbrev Sm:Sh:=.pair (.int .i64) (.pair (.int .i64) (.int .i64))
abbrev Yf:Type:=List Int×List Int×List (List Int)×List Int×List Int
abbrev Ye:Type:=Int×Int×Int
abbrev qbI:List Kd:=[.dat Sr,.dat Sr]
abbrev qbG:List Kd:=[.dat (.bool)]
abbrev qaw:Type:=Dens qbG
def qku(_N:Nat):Ctx:={ T:=[(2,⟨.int .i64,1,8,some (.int .i64),[.int .i64 (0:Int)],false,[]⟩),(24,⟨.slice 2,1,24,some Sr,[.nil],false,[]⟩)],G:=findE [],I:=findI [],N:=_N,n:=26,fx:=[],fl:=0,gs:=[] }
def qjL(_N:Nat):Option qaw:=
 (some (true,()))
def qdv(_N:Nat)(_k4:Unit->Option qaw)(_v1:List Int)(_v2:List Int)(_v3:Int)(_kn5:(List Int×List Int)×Int->Option qaw):Option qaw:=
 (bif (decide (_v3<(_v1.length:Int))) then (bif (decide (0<=_v3)&&decide (_v3<(_v1.length:Int))) then (bif (decide (0<=_v3)&&decide (_v3<(_v2.length:Int))) then (bif ((nth (0:Int) _v1 (_v3).toNat) != (nth (0:Int) _v2 (_v3).toNat)) then (some (false,())) else (_kn5 ((_v1,_v2),(IntKind.i64.wrap (_v3+(1:Int)))))) else none) else none) else (_k4 ()))
def qfo(_N:Nat)(_x1:List Int)(_x2:List Int):Option qaw:=
 (bif ((_x1.length:Int) != (_x2.length:Int)) then (some (false,())) else (joinD (fun (_s:Unit)=>qjL _N) fun _k4=>(loopE (fun (_c:List Int×List Int) (_s:Int) _kn=>qdv _N _k4 _c.1 _c.2 _s _kn) _N (_x1,_x2) (0:Int))))
def qaL(_N:Nat)(_x:Dens qbI):Option qaw:=qfo _N _x.1 _x.2.1
theorem qiq(_N:Nat):SpecD Try.prog [] 11 qbI qbG (qaL _N):=mkSpD (fn:=Try.f11) (c:=qcF Try.f11) (C:=qku _N)
  (a:=.two .none (.two .none (.join 0 ⟨[],[]⟩ (.two .none (.one (.loop 0 ⟨[(0,.sl (.int .i64)),(1,.sl (.int .i64)),(5,.int .i64)],[]⟩ [2] (.two .none (.two (.one (.two (.draw 0 [.pure,.pure,.pure,.pure,.pure,.pure,.pure,.pure,.pure]) .none)) .none))))) .none)))
  (by kernel_rfl) rfl (by kernel_rfl) (by kernel_rfl) ⟨rfl,by unfold TOk;kernel_rfl,qgW rfl rfl (zt _),qgV rfl rfl (zt _),rfl⟩ (fun _x=>by kernel_rfl)
theorem qjk(_N:Nat):EntOk Try.prog [] (mkP 11 qbI qbG (qaL _N)):=entP ⟨Try.f11,qcF Try.f11,by kernel_rfl,by kernel_rfl,rfl⟩ (by kernel_rfl) (qiq _N)
abbrev qbJ:List Kd:=[.dat (.int .i64),.dat (.int .i64),.dat (.sl Sm),.dat (.int .i64)]
abbrev qbH:List Kd:=[.dat (.bool)]
abbrev qw:Type:=Dens qbH
def qeA(_N:Nat):Ctx:={ T:=[(2,⟨.int .i64,1,8,some (.int .i64),[.int .i64 (0:Int)],false,[]⟩),(3,⟨.int .i64,1,8,some (.int .i64),[.int .i64 (0:Int)],false,[]⟩),(22,⟨.slice 32,1,24,some (.sl Sm),[.nil],false,[]⟩),(23,⟨.slice 28,1,24,some Sr,[.nil],false,[]⟩),(24,⟨.slice 2,1,24,some Sr,[.nil],false,[]⟩),(25,⟨.slice 24,1,24,some (.sl Sr),[.nil],false,[]⟩),(27,⟨.struct [(0,23),(1,24),(2,25)],3,72,some (.pair Sr (.pair Sr (.sl Sr))),[.nil,.nil,.nil],false,[]⟩),(28,⟨.int .i64,1,8,some (.int .i64),[.int .i64 (0:Int)],false,[]⟩),(32,⟨.struct [(0,3),(1,3),(2,2)],3,24,some Sm,[.int .i64 (0:Int),.int .i64 (0:Int),.int .i64 (0:Int)],true,[]⟩)],G:=findE [mkQ 10 qaZ qaY (qad _N),mkP 11 qbI qbG (qaL _N)],I:=findI [],N:=_N,n:=124,fx:=[1,2],fl:=0,gs:=[] }
def qcf(_N:Nat)(_v42:List Int)(_v43:List Int):Option qw:=
 ((qaL _N (_v42,_v43,())).bind fun _y46=>(some (_y46.1,())))
def qai(_N:Nat)(_k47:Yf->Option qw)(_v31:List Int)(_v32:Int)(_v34:List Int)(_v35:List Int)(_v36:List (List Int))(_v37:List Int)(_v33:Int)(_v38:List Int)(_kn48:(List Int×Int×List Int×List Int×List (List Int)×List Int)×(Int×List Int)->Option qw):Option qw:=
 (bif (decide (_v33<_v32)) then (bif (decide (0<=_v33)&&decide (_v33<(_v31.length:Int))) then (bif (decide ((_v38.length+([(nth (0:Int) _v31 (_v33).toNat)]).length)*8<=140737488355328)&&Nat.ble 1 8) then (_kn48 ((_v31,_v32,_v34,_v35,_v36,_v37),((IntKind.i64.wrap (_v33+(1:Int))),(_v38 ++ [(nth (0:Int) _v31 (_v33).toNat)])))) else none) else none) else (_k47 (_v34,_v35,_v36,_v37,_v38)))
def qce(_N:Nat)(_v25:Int)(_v26:List Int)(_v27:List Int)(_v28:List (List Int))(_v29:List Int)(_v30:List Int):Option qw:=
 (joinD (fun (_s:List Int×List Int×List (List Int)×List Int×List Int)=>qcf _N _s.2.2.2.1 _s.2.2.2.2) fun _k47=>(bif (decide (0<=_v25)&&decide (_v25<(_v28.length:Int))) then (loopE (fun (_c:List Int×Int×List Int×List Int×List (List Int)×List Int) (_s:Int×List Int) _kn=>qai _N _k47 _c.1 _c.2.1 _c.2.2.1 _c.2.2.2.1 _c.2.2.2.2.1 _c.2.2.2.2.2 _s.1 _s.2 _kn) _N ((nth ([]) _v28 (_v25).toNat),((nth ([]) _v28 (_v25).toNat).length:Int),_v26,_v27,_v28,_v29) ((0:Int),_v30)) else none))
def qcd(_N:Nat)(_kn50:(Int×Int×(List Ye)×Int×List Int×List Int×List (List Int))×(Int×List Int×List Int)->Option qw)(_v12:Int)(_v13:Int)(_v14:List Ye)(_v15:Int)(_v16:Int)(_v17:List Int)(_v18:List Int)(_v19:List (List Int))(_v20:List Int)(_v21:List Int):Option qw:=
 (_kn50 ((_v12,_v13,_v14,_v15,_v17,_v18,_v19),((IntKind.i64.wrap (_v16+(1:Int))),_v20,_v21)))
def qaG(_N:Nat)(_k49:(Int×List Int×List Int×List (List Int)×List Int×List Int)->Option qw)(_v2:Int)(_v3:Int)(_v4:List Ye)(_v5:Int)(_v7:List Int)(_v8:List Int)(_v9:List (List Int))(_v6:Int)(_v10:List Int)(_v11:List Int)(_kn50:(Int×Int×(List Ye)×Int×List Int×List Int×List (List Int))×(Int×List Int×List Int)->Option qw):Option qw:=
 (bif (decide (_v6<_v5)) then (joinD (fun (_s:Int×Int×(List Ye)×Int×Int×List Int×List Int×List (List Int)×List Int×List Int×Int×Int×Int)=>qcd _N _kn50 _s.1 _s.2.1 _s.2.2.1 _s.2.2.2.1 _s.2.2.2.2.1 _s.2.2.2.2.2.1 _s.2.2.2.2.2.2.1 _s.2.2.2.2.2.2.2.1 _s.2.2.2.2.2.2.2.2.1 _s.2.2.2.2.2.2.2.2.2.1) fun _k51=>(bif (decide (0<=_v6)&&decide (_v6<(_v4.length:Int))) then (bif ((((nth ((0:Int),((0:Int),(0:Int))) _v4 (_v6).toNat).2).1) != _v3) then (_k51 (_v2,_v3,_v4,_v5,_v6,_v7,_v8,_v9,_v10,_v11,(nth ((0:Int),((0:Int),(0:Int))) _v4 (_v6).toNat).1,((nth ((0:Int),((0:Int),(0:Int))) _v4 (_v6).toNat).2).1,((nth ((0:Int),((0:Int),(0:Int))) _v4 (_v6).toNat).2).2)) else (bif (decide (0<=_v6)&&decide (_v6<(_v7.length:Int))) then (bif ((nth (0:Int) _v7 (_v6).toNat) != (0:Int)) then (_k51 (_v2,_v3,_v4,_v5,_v6,_v7,_v8,_v9,_v10,_v11,(nth ((0:Int),((0:Int),(0:Int))) _v4 (_v6).toNat).1,((nth ((0:Int),((0:Int),(0:Int))) _v4 (_v6).toNat).2).1,((nth ((0:Int),((0:Int),(0:Int))) _v4 (_v6).toNat).2).2)) else (bif (((nth ((0:Int),((0:Int),(0:Int))) _v4 (_v6).toNat).1)==(1:Int)) then (bif (decide ((_v10.length+([((nth ((0:Int),((0:Int),(0:Int))) _v4 (_v6).toNat).2).2]).length)*8<=140737488355328)&&Nat.ble 1 8) then (bif (decide ((IntKind.i64.wrap (((_v10 ++ [((nth ((0:Int),((0:Int),(0:Int))) _v4 (_v6).toNat).2).2]).length:Int) - (_v11.length:Int)))>_v2)) then (some (false,())) else (bif (decide (((_v10 ++ [((nth ((0:Int),((0:Int),(0:Int))) _v4 (_v6).toNat).2).2]).length:Int)<(_v11.length:Int))) then (some (false,())) else (_k51 (_v2,_v3,_v4,_v5,_v6,_v7,_v8,_v9,(_v10 ++ [((nth ((0:Int),((0:Int),(0:Int))) _v4 (_v6).toNat).2).2]),_v11,(nth ((0:Int),((0:Int),(0:Int))) _v4 (_v6).toNat).1,((nth ((0:Int),((0:Int),(0:Int))) _v4 (_v6).toNat).2).1,((nth ((0:Int),((0:Int),(0:Int))) _v4 (_v6).toNat).2).2)))) else none) else (bif (decide (0<=_v6)&&decide (_v6<(_v8.length:Int))) then (bif (decide ((_v11.length+([(nth (0:Int) _v8 (_v6).toNat)]).length)*8<=140737488355328)&&Nat.ble 1 8) then (bif (decide ((IntKind.i64.wrap ((_v10.length:Int) - ((_v11 ++ [(nth (0:Int) _v8 (_v6).toNat)]).length:Int)))>_v2)) then (some (false,())) else (bif (decide ((_v10.length:Int)<((_v11 ++ [(nth (0:Int) _v8 (_v6).toNat)]).length:Int))) then (some (false,())) else (_k51 (_v2,_v3,_v4,_v5,_v6,_v7,_v8,_v9,_v10,(_v11 ++ [(nth (0:Int) _v8 (_v6).toNat)]),(nth ((0:Int),((0:Int),(0:Int))) _v4 (_v6).toNat).1,((nth ((0:Int),((0:Int),(0:Int))) _v4 (_v6).toNat).2).1,((nth ((0:Int),((0:Int),(0:Int))) _v4 (_v6).toNat).2).2)))) else none) else none))) else none)) else none)) else (_k49 (_v3,_v7,_v8,_v9,_v10,_v11)))
def qcc(_N:Nat)(_x1:Int)(_x2:Int)(_x3:List Ye)(_x4:Int):Option qw:=
 ((qad _N (_x1,_x2,_x3,())).bind fun _y45=>(bif (_y45.2.1 != (0:Int)) then (some (true,())) else (bif (decide (_x4<(0:Int))) then (some (true,())) else (bif (decide (_x4>=_x1)) then (some (true,())) else (bif ((_y45.1.1.length:Int) != (_x3.length:Int)) then (some (false,())) else (bif ((_y45.1.2.1.length:Int) != (_x3.length:Int)) then (some (false,())) else (bif ((_y45.1.2.2.length:Int) != _x1) then (some (false,())) else (joinD (fun (_s:Int×List Int×List Int×List (List Int)×List Int×List Int)=>qce _N _s.1 _s.2.1 _s.2.2.1 _s.2.2.2.1 _s.2.2.2.2.1 _s.2.2.2.2.2) fun _k49=>(loopE (fun (_c:Int×Int×(List Ye)×Int×List Int×List Int×List (List Int)) (_s:Int×List Int×List Int) _kn=>qaG _N _k49 _c.1 _c.2.1 _c.2.2.1 _c.2.2.2.1 _c.2.2.2.2.1 _c.2.2.2.2.2.1 _c.2.2.2.2.2.2 _s.1 _s.2.1 _s.2.2 _kn) _N (_x2,_x4,_x3,(_x3.length:Int),_y45.1.1,_y45.1.2.1,_y45.1.2.2) ((0:Int),[],[]))))))))))
def qaM(_N:Nat)(_x:Dens qbJ):Option qw:=qcc _N _x.1 _x.2.1 _x.2.2.1 _x.2.2.2.1
theorem qdN(_N:Nat):SpecD Try.prog [] 3 qbJ qbH (qaM _N):=mkSpD (fn:=Try.f3) (c:=qcF Try.f3) (C:=qeA _N)
  (a:=.two .none (.two .none (.two .none (.two .none (.two .none (.two .none (.join 3 ⟨[(3,.int .i64),(9,.ptr 0 0),(11,.slc 1 0),(12,.slc 2 0)],[.cells [.sl (.int .i64),.sl (.int .i64),.sl Sr],.row false 0 2 (.int .i64),.row false 0 2 (.int .i64)]⟩ (.two .none (.one (.obj 11 2 (.int .i64) (.obj 12 2 (.int .i64) (.loop 3 ⟨[(1,.int .i64),(3,.int .i64),(9,.ptr 0 0),(11,.slc 1 0),(12,.slc 2 0),(56,.sl Sm),(57,.int .i64),(58,.int .i64)],[.cells [.sl (.int .i64),.sl (.int .i64),.sl Sr],.row false 0 2 (.int .i64),.row false 0 2 (.int .i64)]⟩ [4,8,9] (.two .none (.two .none (.join 4 ⟨[(1,.int .i64),(3,.int .i64),(9,.ptr 0 0),(11,.slc 1 0),(12,.slc 2 0),(56,.sl Sm),(57,.int .i64),(58,.int .i64)],[.cells [.sl (.int .i64),.sl (.int .i64),.sl Sr],.row false 0 2 (.int .i64),.row false 0 2 (.int .i64),.cells [.int .i64,.int .i64,.int .i64]]⟩ .none .none)))))))) (.join 3 ⟨[(11,.slc 1 0),(12,.slc 2 0)],[.cells [.sl (.int .i64),.sl (.int .i64),.sl Sr],.row false 0 2 (.int .i64),.row false 0 2 (.int .i64)]⟩ (.two .none (.one (.loop 3 ⟨[(11,.slc 1 0),(12,.slc 2 0),(110,.sl (.int .i64)),(111,.int .i64),(112,.int .i64)],[.cells [.sl (.int .i64),.sl (.int .i64),.sl Sr],.row false 0 2 (.int .i64),.row false 0 2 (.int .i64)]⟩ [2,7] .none))) .none))))))))
  (by kernel_rfl) rfl (by kernel_rfl) (by kernel_rfl) ⟨rfl,by unfold TOk;kernel_rfl,qgW rfl rfl (zAQ.2 ⟨qgv _N,(zAQ.2 ⟨qjk _N,(zt _)⟩)⟩),qgV rfl rfl (zt _),rfl⟩ (fun _x=>by kernel_rfl)
theorem qlQ{N:Nat}(xs:List Int)(h:xs.length<1000)(hN:1000<=N):qaL N (xs,xs,())=some (true,()):=by
 simp only [qaL,qfo,bne_self_eq_false,cond_false,joinD,loopE]
 refine qeo xs.length (fun i=>(i:Int)) (fun i hi kn=>?_) (fun kn=>?_) (by omega)
 ·unfold qdv
  rw [lt_d hi,cond_true,ge0_d,Bool.and_self,cond_true,bne_self_eq_false,cond_false,w64 (show -9223372036854775808<=(i:Int)+1 by omega) (show (i:Int)+1<=9223372036854775807 by omega),qcA,cond_true]
  rfl
 ·unfold qdv
  rw [qfC,cond_false]
  rfl
theorem qnx{lanes room lane:Int}(ls:List (List Int))(m:Mv)(h0:0<=lane)(h:m.2.1≠lane):nth [] (oc lanes room ls m).1 lane.toNat=nth [] ls lane.toNat:=by
 unfold oc
 split
 ·rfl
 split
 ·rfl
 rename_i hb
 have hs:∀ q,nth [] (ls.set m.2.1.toNat q) lane.toNat=nth [] ls lane.toNat:=fun q=>by
  by_cases hl:m.2.1.toNat<ls.length
  ·rw [qcM hl,zR (by omega)]
  ·rw [zAt (by omega)]
 split
 ·split
  ·rfl
  ·exact hs _
 split
 ·rfl
 ·exact hs _
theorem oc_ne{lanes room:Int}(ls:List (List Int))(m:Mv)(h:(oc lanes room ls m).2.1≠0):(oc lanes room ls m).1=ls:=by
 unfold oc at h ⊢
 split
 ·rfl
 split
 ·rfl
 split
 ·split
  ·rfl
  ·simp_all
 split
 ·rfl
 ·simp_all
theorem qon{lanes room:Int}(ls:List (List Int))(kd ln x:Int)(hlen:(ls.length:Int)=lanes)(h:(oc lanes room ls (kd,ln,x)).2.1=0) :
  (kd=1/\nth [] (oc lanes room ls (kd,ln,x)).1 ln.toNat=nth [] ls ln.toNat ++ [x]/\((nth [] ls ln.toNat).length:Int)≠room) \/
  (kd≠1/\∃ y t,nth [] ls ln.toNat=y :: t/\(oc lanes room ls (kd,ln,x)).2.2=y/\nth [] (oc lanes room ls (kd,ln,x)).1 ln.toNat=t):=by
 unfold oc at h ⊢
 by_cases h1:kd≠1/\kd≠2
 ·rw [zG h1] at h;cases h
 rw [zR h1] at h ⊢
 by_cases h2:ln<0\/ln>=lanes
 ·rw [zG h2] at h;cases h
 rw [zR h2] at h ⊢
 have hl:ln.toNat<ls.length:=by omega
 by_cases h3:kd=1
 ·rw [zG h3] at h ⊢
  by_cases h4:((nth [] ls ln.toNat).length:Int)=room
  ·rw [zG h4] at h;cases h
  ·rw [zR h4]
   exact .inl ⟨h3,by dsimp only;rw [qcM hl,zG rfl],h4⟩
 ·rw [zR h3] at h ⊢
  dsimp only at h ⊢
  cases hq:nth [] ls ln.toNat with
  | nil=>rw [hq] at h;cases h
  | cons y t=>exact .inr ⟨h3,y,t,rfl,rfl,by dsimp only;rw [qcM hl,zG rfl]⟩
theorem qoo{lanes room:Int}(ls:List (List Int))(m:Mv)(h:∀ j,((nth [] ls j).length:Int)<=room)(j:Nat):((nth [] (oc lanes room ls m).1 j).length:Int)<=room:=by
 have hs:∀ i q,((q.length:Nat):Int)<=room->((nth [] (ls.set i q) j).length:Int)<=room:=fun i q hq=>by
  by_cases hl:i<ls.length
  ·rw [qcM hl];split
   ·exact hq
   ·exact h j
  ·rw [zAt (by omega)];exact h j
 unfold oc
 split
 ·exact h j
 split
 ·exact h j
 split
 ·split
  ·exact h j
  ·exact hs _ _ (by have:=h m.2.1.toNat;simp;omega)
 have h1:=h m.2.1.toNat
 split
 ·exact h j
 ·rename_i hq
  rw [hq] at h1
  exact hs _ _ (by simp at h1;omega)
theorem qiy{lanes room:Int}(hr:0<=room)(l:List Mv):∀ i,i<=l.length->∀ j,((nth [] (runQ lanes room (l.take i)).ls j).length:Int)<=room
 | 0,_,j=>by
  have:nth ([]:List Int) (q0 lanes).ls j = []:=by
   unfold nth q0
   rw [zF,zBa]
   split <;> rfl
  show ((nth [] (q0 lanes).ls j).length:Int)<=room
  rw [this];exact hr
 | i+1,hi,j=>by
  rw [qbT l (by omega)]
  exact qoo _ _ (qiy hr l i (by omega)) j
theorem qml{lanes room:Int}:(l:List Mv)->(s:LS)->∃ c d,(l.foldl (stq lanes room) s).codes=s.codes++c/\(l.foldl (stq lanes room) s).taken=s.taken++d
 | [],s=>⟨[],[],by simp,by simp⟩
 | a :: l,s=>by
  obtain⟨c,d,h1,h2⟩:=qml (lanes:=lanes) (room:=room) l (stq lanes room s a)
  exact⟨_,_,by rw [List.foldl_cons,h1];simp only [stq];rw [zL],by rw [List.foldl_cons,h2];simp only [stq];rw [zL]⟩
theorem qoG{lanes room:Int}(l:List Mv){i:Nat}(hi:i<l.length) :
  nth 0 (runQ lanes room l).codes i=(oc lanes room (runQ lanes room (l.take i)).ls (nth zm l i)).2.1/\nth 0 (runQ lanes room l).taken i=(oc lanes room (runQ lanes room (l.take i)).ls (nth zm l i)).2.2:=by
 obtain⟨c,d,h1,h2⟩:=qml (lanes:=lanes) (room:=room) (l.drop (i+1)) (runQ lanes room (l.take (i+1)))
 have e:(l.drop (i+1)).foldl (stq lanes room) (runQ lanes room (l.take (i+1)))=runQ lanes room l:=by
  unfold runQ;rw [<- List.foldl_append,zAX]
 rw [e,qbT l hi] at h1 h2
 obtain⟨-,g2,g3⟩:=qeW lanes room (l.take i)
 rw [zj,zAz (by omega)] at g2 g3
 simp only [stq] at h1 h2
 rw [h1,h2]
 constructor
 ·rw [qjR (by simp [g2])]
  have:=qjQ (z:=(0:Int)) (x:=(oc lanes room (runQ lanes room (l.take i)).ls (nth zm l i)).2.1) (xs:=(runQ lanes room (l.take i)).codes)
  rwa [g2] at this
 ·rw [qjR (by simp [g3])]
  have:=qjQ (z:=(0:Int)) (x:=(oc lanes room (runQ lanes room (l.take i)).ls (nth zm l i)).2.2) (xs:=(runQ lanes room (l.take i)).taken)
  rwa [g3] at this
theorem qmF{N:Nat}(hN:100<=N){k:Yf->Option qw}(xs a b:List Int)(c:List (List Int))(p g:List Int)(hx:xs.length<=16)(hg:g.length<=1000) :
  loopD (fun s kn=>qai N k xs (xs.length:Int) a b c p s.1 s.2 (backE (xs,(xs.length:Int),a,b,c,p) kn)) N ((0:Int),g)=k (a,b,c,p,g++xs):=by
 have e0:((0:Int),g)=(fun i:Nat=>((i:Int),g++xs.take i)) 0:=by simp
 rw [e0]
 refine qeo xs.length (fun i=>((i:Int),g++xs.take i)) (fun i hi kn=>?_) (fun kn=>?_) (by omega)
 ·dsimp only
  unfold qai
  rw [lt_d hi,cond_true,ge0_d,Bool.and_self,cond_true,Int.toNat_natCast,qag (show ((g++xs.take i).length + [nth 0 xs i].length)*8<=140737488355328 by simp only [zO,zj,zg];omega),
   show Nat.ble 1 8=true from rfl,Bool.and_self,cond_true,w64 (show -9223372036854775808<=(i:Int)+1 by omega) (show (i:Int)+1<=9223372036854775807 by omega),qcA,zAi hi,<- qbY (z:=(0:Int)) hi,zL]
  rfl
 ·dsimp only
  unfold qai
  rw [qfC,cond_false,zAL]
theorem law_QueueOrder(lanes room:Int)(l:List Mv)(lane:Int)(_h1:wfS (.int .i64) lanes)(_h2:wfS (.int .i64) room)(_h3:wfS (.sl Sm) l)(_h4:wfS (.int .i64) lane):∃ N,qaM N (lanes,room,l,lane,())=some (true,()):=by
 refine⟨1000,?_⟩
 simp only [qaM,qcc]
 by_cases hbad:lanes<1\/lanes>8\/room<0\/room>16\/l.length>60
 ·rw [qnV lanes room l hbad,Option.bind_some];rfl
 rw [qoL (by omega) lanes room l (by omega) (by omega) (by omega) (by omega) (by omega),Option.bind_some]
 dsimp only
 rw [bne_self_eq_false,cond_false]
 by_cases hl0:lane<0
 ·rw [qag hl0,cond_true]
 rw [qO hl0,cond_false]
 by_cases hl1:lane>=lanes
 ·rw [qag hl1,cond_true]
 rw [qO hl1,cond_false]
 obtain⟨g1,g2,g3⟩:=qeW lanes room l
 rw [g2,g3,bne_self_eq_false,cond_false,cond_false,show (((runQ lanes room l).ls.length:Int) != lanes)=false by rw [g1];simp;omega,cond_false]
 simp only [joinD,loopE]
 have hr:=qiy (lanes:=lanes) (room:=room) (by omega) l
 refine qcZ (fun s=>∃ (i:Nat) (p g:List Int),s=((i:Int),p,g)/\i<=l.length/\p.length<=i/\p=g++nth [] (runQ lanes room (l.take i)).ls lane.toNat) (fun s=>l.length - s.1.toNat)
  (fun o=>o=some (true,())) ?_ 1000 _ ⟨0,[],[],rfl,zAB _,Nat.le_refl _,?_⟩ (by simp;omega)
 ·rintro s ⟨i,p,g,rfl,hi,hp,hpg⟩ kn hkn
  dsimp only
  have hq:=hr i hi lane.toNat
  have hpl:p.length=g.length+(nth [] (runQ lanes room (l.take i)).ls lane.toNat).length:=by rw [hpg,zO]
  by_cases hlt:i<l.length
  ·obtain⟨c1,c2⟩:=qoG (lanes:=lanes) (room:=room) l hlt
   have hq':=hr (i+1) hlt lane.toNat
   have hn:=qbT (lanes:=lanes) (room:=room) l hlt
   have hlen:((runQ lanes room (l.take i)).ls.length:Int)=lanes:=by rw [(qeW lanes room (l.take i)).1];omega
   have hix:decide ((i:Int)<((runQ lanes room l).codes.length:Int))=true:=by rw [g2];exact lt_d hlt
   have hiy:decide ((i:Int)<((runQ lanes room l).taken.length:Int))=true:=by rw [g3];exact lt_d hlt
   have hw:IntKind.i64.wrap ((i:Int)+1)=((i+1:Nat):Int):=w64 (by omega) (by omega)
   have step:∀ p' g':List Int,p'.length<=i+1->p'=g'++nth [] (runQ lanes room (l.take (i+1))).ls lane.toNat->kn (((i+1:Nat):Int),p',g')=some (true,()):=fun p' g' h1 h2=>
    hkn _ ⟨i+1,p',g',rfl,hlt,h1,h2⟩ (by simp only [Int.toNat_natCast];omega)
   rw [hn] at step hq'
   simp only [stq] at step hq'
   obtain⟨⟨kd,ln,x⟩,ha⟩:∃ a:Mv,nth zm l i=a:=⟨_,rfl⟩
   rw [ha] at c1 c2 step hq'
   simp only [qaG,lt_d hlt,ge0_d,hix,hiy,Bool.and_self,cond_true,joinD,Int.toNat_natCast,ha,c1,c2,qcd,qcA,hw]
   by_cases e1:ln=lane
   case neg=>
    rw [bne_iff_ne.2 e1,cond_true]
    exact step p g (by omega) (by rw [qnx _ _ (by omega) e1];exact hpg)
   subst e1
   rw [bne_self_eq_false,cond_false]
   by_cases e2:(oc lanes room (runQ lanes room (l.take i)).ls (kd,ln,x)).2.1=0
   case neg=>
    rw [bne_iff_ne.2 e2,cond_true]
    exact step p g (by omega) (by rw [oc_ne _ _ e2];exact hpg)
   rw [e2,bne_self_eq_false,cond_false]
   rcases qon (room:=room) _ kd ln x hlen e2 with⟨rfl,h5,h6⟩ | ⟨h5,y,t,h6,h7,h8⟩
   ·rw [h5] at step hq'
    rw [zO,zg] at hq'
    rw [zAe,cond_true,qag (show (p.length + [x].length)*8<=140737488355328 by simp only [zg];omega),show Nat.ble 1 8=true from rfl,Bool.and_self,cond_true,
     zO,zg,w64 (by omega) (by omega),qO (by omega),cond_false,qO (by omega),cond_false]
    exact step _ _ (by simp;omega) (by rw [hpg,zL])
   ·rw [h8] at step
    rw [h6,List.length_cons] at hpl hq
    rw [zAW h5,cond_false,h7,qag (show (g.length + [y].length)*8<=140737488355328 by simp only [zg];omega),show Nat.ble 1 8=true from rfl,Bool.and_self,cond_true,
     zO,zg,w64 (by omega) (by omega),qO (by omega),cond_false,qO (by omega),cond_false]
    exact step _ _ (by omega) (by rw [hpg,h6,zL];rfl)
  ·obtain rfl:i=l.length:=by omega
   rw [zAL] at hpg hpl hq
   simp only [qaG,qfC,cond_false,qce,joinD,loopE]
   obtain⟨j,rfl⟩:∃ j:Nat,lane=(j:Int):=⟨lane.toNat,by omega⟩
   rw [Int.toNat_natCast] at hpg hpl hq
   rw [ge0_d,lt_d (show j<(runQ lanes room l).ls.length by rw [g1];omega),Bool.and_self,cond_true,Int.toNat_natCast,
    qmF (by omega) _ _ _ _ _ _ (by omega) (by omega)]
   dsimp only
   unfold qcf
   rw [<- hpg,qlQ p (by omega) (Nat.le_refl _),Option.bind_some]
 ·have:nth ([]:List Int) (q0 lanes).ls lane.toNat = []:=by
   rw [qbY (by simp [q0];omega)];simp [q0]
  show [] = []++nth [] (q0 lanes).ls lane.toNat
  rw [this];rfl
set_option maxRecDepth 100000 in
theorem lifted_QueueOrder(os:Os)(started:os.Started)(H:Type)(enc:TypeId×Value->H) :
  ReturnsInHanded {} Try.checked os 3 .any (Rows.queueOrderSpec.pre6 enc Try.prog Try.f3 Rows.queueOrderRow.domain false) (Rows.queueOrderSpec.post enc Try.prog Try.f3 false true false false):=by
 refine returnsInHanded_of_change_sized (C:=Try.checked) own started (by kernel_rfl) Try.func3
  (ChangeSpec.witness6 (enc:=enc) (C:=Try.checked) false ⟨#[],#[.int .i64 0,.int .i64 0,.slice none 0 0,.int .i64 0],[]⟩ 8 (by kernel_rfl) (by kernel_rfl) (by kernel_rfl) (by kernel_rfl)) ?_
 intro W base args ds gs before hval0 hW _ hsz0 _
 have hgw:GW [] W:=fun _ h=>nomatch h
 have hval:∀ (j:Nat) t v,Try.f3.params[j]? = some t->args[j]? = some v->Value.okWide Try.prog W .any base t v:=hval0
 have hW':=hW
 obtain⟨p,q,hA0,hV,rfl,_,_⟩:=hW
 have hA:DataW.TrodAll enc Try.prog W 0 (fun _=>true) true Try.f3.params.toList args.toList ds p:=hA0
 rw [Try.params3] at hA hval
 obtain⟨v0,vs0,d0,ds0,p0,q0,hargs,rfl,rfl,h0,r0⟩:=trodAll_cons hA
 obtain⟨v1,vs1,d1,ds1,p1,q1,rfl,rfl,rfl,h1,r1⟩:=trodAll_cons r0
 obtain⟨v2,vs2,d2,ds2,p2,q2,rfl,rfl,rfl,h2,r2⟩:=trodAll_cons r1
 obtain⟨v3,vs3,d3,ds3,p3,q3,rfl,rfl,rfl,h3,r3⟩:=trodAll_cons r2
 obtain⟨rfl,rfl,rfl⟩:=trodAll_nil r3
 obtain rfl:args = #[v0,v1,v2,v3]:=by cases args;simp_all
 obtain⟨rfl,rfl⟩:=trodVars_none hV
 have hall:=zd.1 hsz0
 clear hA0 hval0 hsz0
 simp only [List.append_nil] at hW'
 have hlt0:∀ x∈p0,x.block<W.heap.size:=fun x hx=>hW'.lt x (by simp [hx])
 have hlt1:∀ x∈p1,x.block<W.heap.size:=fun x hx=>hW'.lt x (by simp [hx])
 have hlt2:∀ x∈p2,x.block<W.heap.size:=fun x hx=>hW'.lt x (by simp [hx])
 have hlt3:∀ x∈p3,x.block<W.heap.size:=fun x hx=>hW'.lt x (by simp [hx])
 obtain⟨x0,g0,w0⟩:=qhE (k:=.dat (.int .i64)) (by kernel_rfl) (hval 0 3 v0 rfl rfl) h0
 obtain⟨x1,g1,w1⟩:=qhE (k:=.dat (.int .i64)) (by kernel_rfl) (hval 1 3 v1 rfl rfl) h1
 obtain⟨x2,g2,w2⟩:=qhE (k:=.dat (.sl Sm)) (by kernel_rfl) (hval 2 22 v2 rfl rfl) h2
 obtain⟨x3,g3,w3⟩:=qhE (k:=.dat (.int .i64)) (by kernel_rfl) (hval 3 3 v3 rfl rfl) h3
 obtain⟨N,hN⟩:=law_QueueOrder x0 x1 x2 x3 w0 w1 w2 w3
 refine (qdN N (fun _=>False) W (x0,x1,x2,x3,()) (true,()) [v0,v1,v2,v3] (fun _ h=>h.elim) hgw ⟨v0,_,rfl,g0,⟨v1,_,rfl,g1,⟨v2,_,rfl,g2,⟨v3,_,rfl,g3,rfl⟩⟩⟩⟩ hN).mono ?_
 rintro e W' ⟨v,rfl,hg,hr⟩
 replace hg:=hg.old
 have hr:v=.bool true:=by simpa only [kvals,retV,Kd.val,Go.Abs.enc,RV] using hr
 subst hr
 exact⟨_,rfl,_,_,_,[],p0++(p1++(p2++(p3 ++ []))),[],hW',(trodAll_cons_mk (shut_bool (show Try.prog.underlying 4=some .bool by kernel_rfl) _) trodAll_mk0),(trodAll_cons_mk (Below.trod laidOut (by kernel_rfl) (zp (by kernel_rfl)) h0 hg hlt0) (trodAll_cons_mk (Below.trod laidOut (by kernel_rfl) (zp (by kernel_rfl)) h1 hg hlt1) (trodAll_cons_mk (Below.trod laidOut (by kernel_rfl) (zp (by kernel_rfl)) h2 hg hlt2) (trodAll_cons_mk (Below.trod laidOut (by kernel_rfl) (zp (by kernel_rfl)) h3 hg hlt3) trodAll_mk0)))),rfl,hg.frame _,fun h=>by cases h⟩
theorem queueOrder_holds:Rows.QueueOrderSaid:=
 OpenClaim.holds_of_wide 3 Try.f3 rfl rfl rfl rfl rfl rfl rfl ⟨rfl,rfl,rfl,rfl,rfl⟩ rfl rfl rfl rfl rfl (by kernel_rfl) Try.func3 (by kernel_rfl)
  (zp (by kernel_rfl)) (by unfold Func.isWrapper;first | (rw [zG (by decide +kernel)];kernel_rfl) | (rw [zR (by decide +kernel)];exact⟨rfl,rfl⟩))
  (fun os started H enc _=>lifted_QueueOrder os started H enc)
end Go.Proofs.Ytcjecibocjbdmaa
end
