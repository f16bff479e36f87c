import Derived.Test.YtcjecibocjbdmaaCrewS
import Derived.Test.YtcjecibocjbdmaaFrame0
noncomputable section
namespace Go.Proofs.Ytcjecibocjbdmaa
open Go Go.ChangeShapes Go.WideShapes Go.ChangeAt Go.WideMaps Go.WideElems Go.RowKit Go.Abs Go.Bag
abbrev Sr:Sh:=.pair (.int .i64) (.pair (.int .i64) (.int .i64))
abbrev Yh:Type:=Int×Int×Int
abbrev Yg:Type:=List (Int×Int×Int)
abbrev Ks_keep_CrewParts:List Kd:=[.dat (.int .i64),.dat (.sl Sr)]
abbrev Rk_keep_CrewParts:List Kd:=[.dat (.bool)]
abbrev Rt_keep_CrewParts:Type:=Dens Rk_keep_CrewParts
def C_keep_CrewParts(_N:Nat):Ctx:={ T:=[(2,⟨.int .i64,1,8,some (.int .i64),[.int .i64 (0:Int)],false,[]⟩),(36,⟨.slice 41,1,24,some (.sl Sr),[.nil],false,[]⟩),(37,⟨.slice 36,1,24,some (.sl (.sl Sr)),[.nil],false,[]⟩),(41,⟨.struct [(0,2),(1,2),(2,2)],3,24,some Sr,[.int .i64 (0:Int),.int .i64 (0:Int),.int .i64 (0:Int)],true,[]⟩)],G:=findE [mkQ 13 Ks_crew_Shares Rk_crew_Shares (D_crew_Shares _N),mkQ 15 Ks_bags_Tidy Rk_bags_Tidy (D_bags_Tidy _N),mkD 15 Ks_bags_Tidy Rk_bags_Tidy (D_bags_Tidy _N),mkP 16 Ks_keep_same Rk_keep_same (D_keep_same _N),mkQ 14 Ks_keep_keyed [.dat (.sl Sr)] (fun _x=>(D_keep_keyed _N _x).map fun _y=>(_y,()))],I:=findI [],N:=_N,n:=88,fx:=[0],fl:=0,gs:=[] }
def keep_CrewParts_1(_N:Nat)(_v73:Int)(_v74:List Yh)(_v75:List Yg)(_v76:List Yh):Option Rt_keep_CrewParts:=
 ((D_bags_Tidy _N (_v74,())).bind fun _y81=>((D_bags_Tidy _N (_v76,())).bind fun _y82=>(bif ((_v75.length:Int)==_v73) then (bif ((_v76.length:Int)==(_y81.1.length:Int)) then ((D_keep_same _N (_y81.1,_y81.2.1,_y82.1,_y82.2.1,())).bind fun _y83=>(some (_y83.1,()))) else (some (false,()))) else (some (false,())))))
def keep_CrewParts_2(_N:Nat)(_kn85:(Int×Yg×(List Yg))×(Int×Yg)->Option Rt_keep_CrewParts)(_v59:Int)(_v60:List Yh)(_v61:List Yg)(_v62:Int)(_v63:List Yh):Option Rt_keep_CrewParts:=
 (_kn85 ((_v59,_v60,_v61),((IntKind.i64.wrap (_v62+(1:Int))),_v63)))
def keep_CrewParts_3(_N:Nat)(_kn87:(Int×Yg×(List Yg)×Int×Yg×Int)×(Int×Yg)->Option Rt_keep_CrewParts)(_v36:Int)(_v37:List Yh)(_v38:List Yg)(_v39:Int)(_v40:List Yh)(_v41:Int)(_v42:Int)(_v55:List Yh):Option Rt_keep_CrewParts:=
 (_kn87 ((_v36,_v37,_v38,_v39,_v40,_v41),((IntKind.i64.wrap (_v42+(1:Int))),_v55)))
def keep_CrewParts_4(_N:Nat)(_k88:(Int×Yg×(List Yg)×Int×Yg×Int×Int×Yg×Int×Int×Int×Yg)->Option Rt_keep_CrewParts)(_v26:Int)(_v27:List Yh)(_v28:List Yg)(_v29:Int)(_v30:List Yh)(_v31:Int)(_v32:Int)(_v53:List Yh)(_v34:Int)(_v35:Int)(_v54:Int):Option Rt_keep_CrewParts:=
 (bif (decide ((_v53.length+([(_v34,(_v35,_v54))]).length)*24<=140737488355328)&&Nat.ble 1 24) then (_k88 (_v26,_v27,_v28,_v29,_v30,_v31,_v32,(_v53 ++ [(_v34,(_v35,_v54))]),_v34,_v35,_v54,[(_v34,(_v35,_v54))])) else none)
def keep_CrewParts_5(_N:Nat)(_k89:(Int×Yg×(List Yg)×Int×Yg×Int×Int×Yg×Int×Int×Int)->Option Rt_keep_CrewParts)(_v13:Int)(_v14:List Yh)(_v15:List Yg)(_v16:Int)(_v18:List Yh)(_v19:Int)(_v20:Int)(_v49:List Yh)(_v22:Int)(_v23:Int)(_v50:Int)(_v17:Int)(_kn90:(Int×Yg×(List Yg)×Int×Yg×Int×Int×Yg×Int×Int×Int)×Int->Option Rt_keep_CrewParts):Option Rt_keep_CrewParts:=
 (bif (decide (_v17<_v16)) then (bif (decide (0<=_v17)&&decide (_v17<(_v15.length:Int))) then (((fun _x=>(D_keep_keyed _N _x).map fun _y=>(_y,())) ((nth ([]) _v15 (_v17).toNat),_v22,())).bind fun _y91=>(bif (decide ((_y91.1.length:Int)>(0:Int))) then (some (false,())) else (_kn90 ((_v13,_v14,_v15,_v16,_v18,_v19,_v20,_v49,_v22,_v23,_v50),(IntKind.i64.wrap (_v17+(1:Int))))))) else none) else (_k89 (_v13,_v14,_v15,_v16,_v18,_v19,_v20,_v49,_v22,_v23,_v50)))
def keep_CrewParts_6(_N:Nat)(_k86:(Int×Yg×(List Yg)×Int×Yg)->Option Rt_keep_CrewParts)(_v6:Int)(_v7:List Yh)(_v8:List Yg)(_v9:Int)(_v10:List Yh)(_v11:Int)(_v12:Int)(_v48:List Yh)(_kn87:(Int×Yg×(List Yg)×Int×Yg×Int)×(Int×Yg)->Option Rt_keep_CrewParts):Option Rt_keep_CrewParts:=
 (bif (decide (_v12<_v11)) then (joinD (fun (_s:Int×Yg×(List Yg)×Int×Yg×Int×Int×Yg×Int×Int×Int×Yg)=>keep_CrewParts_3 _N _kn87 _s.1 _s.2.1 _s.2.2.1 _s.2.2.2.1 _s.2.2.2.2.1 _s.2.2.2.2.2.1 _s.2.2.2.2.2.2.1 _s.2.2.2.2.2.2.2.1) fun _k88=>(bif (decide (0<=_v12)&&decide (_v12<(_v10.length:Int))) then (joinD (fun (_s:Int×Yg×(List Yg)×Int×Yg×Int×Int×Yg×Int×Int×Int)=>keep_CrewParts_4 _N _k88 _s.1 _s.2.1 _s.2.2.1 _s.2.2.2.1 _s.2.2.2.2.1 _s.2.2.2.2.2.1 _s.2.2.2.2.2.2.1 _s.2.2.2.2.2.2.2.1 _s.2.2.2.2.2.2.2.2.1 _s.2.2.2.2.2.2.2.2.2.1 _s.2.2.2.2.2.2.2.2.2.2) fun _k89=>(loopE (fun (_c:Int×Yg×(List Yg)×Int×Yg×Int×Int×Yg×Int×Int×Int) (_s:Int) _kn=>keep_CrewParts_5 _N _k89 _c.1 _c.2.1 _c.2.2.1 _c.2.2.2.1 _c.2.2.2.2.1 _c.2.2.2.2.2.1 _c.2.2.2.2.2.2.1 _c.2.2.2.2.2.2.2.1 _c.2.2.2.2.2.2.2.2.1 _c.2.2.2.2.2.2.2.2.2.1 _c.2.2.2.2.2.2.2.2.2.2 _s _kn) _N (_v6,_v7,_v8,_v9,_v10,_v11,_v12,_v48,(nth ((0:Int),((0:Int),(0:Int))) _v10 (_v12).toNat).1,((nth ((0:Int),((0:Int),(0:Int))) _v10 (_v12).toNat).2).1,((nth ((0:Int),((0:Int),(0:Int))) _v10 (_v12).toNat).2).2) (0:Int))) else none)) else (_k86 (_v6,_v7,_v8,_v9,_v48)))
def keep_CrewParts_7(_N:Nat)(_k84:(Int×Yg×(List Yg)×Yg)->Option Rt_keep_CrewParts)(_v2:Int)(_v3:List Yh)(_v4:List Yg)(_v5:Int)(_v64:List Yh)(_kn85:(Int×Yg×(List Yg))×(Int×Yg)->Option Rt_keep_CrewParts):Option Rt_keep_CrewParts:=
 (bif (decide (_v5<(_v4.length:Int))) then (joinD (fun (_s:Int×Yg×(List Yg)×Int×Yg)=>keep_CrewParts_2 _N _kn85 _s.1 _s.2.1 _s.2.2.1 _s.2.2.2.1 _s.2.2.2.2) fun _k86=>(bif (decide (0<=_v5)&&decide (_v5<(_v4.length:Int))) then (loopE (fun (_c:Int×Yg×(List Yg)×Int×Yg×Int) (_s:Int×Yg) _kn=>keep_CrewParts_6 _N _k86 _c.1 _c.2.1 _c.2.2.1 _c.2.2.2.1 _c.2.2.2.2.1 _c.2.2.2.2.2 _s.1 _s.2 _kn) _N (_v2,_v3,_v4,_v5,(nth ([]) _v4 (_v5).toNat),((nth ([]) _v4 (_v5).toNat).length:Int)) ((0:Int),_v64)) else none)) else (_k84 (_v2,_v3,_v4,_v64)))
def keep_CrewParts_8(_N:Nat)(_x1:Int)(_x2:List Yh):Option Rt_keep_CrewParts:=
 ((D_crew_Shares _N (_x1,_x2,())).bind fun _y80=>(bif (_y80.2.1 != (0:Int)) then (some (((_y80.1.length:Int)==(0:Int)),())) else (joinD (fun (_s:Int×Yg×(List Yg)×Yg)=>keep_CrewParts_1 _N _s.1 _s.2.1 _s.2.2.1 _s.2.2.2) fun _k84=>(loopE (fun (_c:Int×Yg×(List Yg)) (_s:Int×Yg) _kn=>keep_CrewParts_7 _N _k84 _c.1 _c.2.1 _c.2.2 _s.1 _s.2 _kn) _N (_x1,_x2,_y80.1) ((0:Int),[])))))
def D_keep_CrewParts(_N:Nat)(_x:Dens Ks_keep_CrewParts):Option Rt_keep_CrewParts:=keep_CrewParts_8 _N _x.1 _x.2.1
theorem sp_keep_CrewParts(_N:Nat):SpecD Try.prog [] 5 Ks_keep_CrewParts Rk_keep_CrewParts (D_keep_CrewParts _N):=mkSpD (fn:=Try.f5) (c:=bodyOf Try.f5) (C:=C_keep_CrewParts _N)
  (a:=.two .none (.two .none (.two .none (.two .none (.join 1 ⟨[(0,.int .i64),(1,.sl Sr),(5,.sl (.sl Sr)),(7,.slc 0 0)],[.row false 0 41 Sr]⟩ (.two .none (.one (.obj 7 41 Sr (.loop 1 ⟨[(0,.int .i64),(1,.sl Sr),(5,.sl (.sl Sr)),(7,.slc 0 0),(8,.int .i64)],[.row false 0 41 Sr]⟩ [3,4] (.two .none (.join 1 ⟨[(0,.int .i64),(1,.sl Sr),(5,.sl (.sl Sr)),(7,.slc 0 0),(8,.int .i64)],[.row false 0 41 Sr]⟩ (.one (.two .none (.one (.loop 1 ⟨[(0,.int .i64),(1,.sl Sr),(5,.sl (.sl Sr)),(7,.slc 0 0),(8,.int .i64),(35,.sl Sr),(36,.int .i64),(37,.int .i64)],[.row false 0 41 Sr]⟩ [6,7] (.two .none (.two .none (.join 3 ⟨[(0,.int .i64),(1,.sl Sr),(5,.sl (.sl Sr)),(7,.slc 0 0),(8,.int .i64),(35,.sl Sr),(36,.int .i64),(37,.int .i64)],[.row false 0 41 Sr,.cells [.int .i64,.int .i64,.int .i64],.row false 0 41 Sr]⟩ (.one (.two .none (.join 2 ⟨[(0,.int .i64),(1,.sl Sr),(5,.sl (.sl Sr)),(7,.slc 0 0),(8,.int .i64),(10,.ptr 1 0),(35,.sl Sr),(36,.int .i64),(37,.int .i64)],[.row false 0 41 Sr,.cells [.int .i64,.int .i64,.int .i64]]⟩ (.two .none (.one (.loop 2 ⟨[(0,.int .i64),(1,.sl Sr),(5,.sl (.sl Sr)),(7,.slc 0 0),(8,.int .i64),(10,.ptr 1 0),(11,.int .i64),(35,.sl Sr),(36,.int .i64),(37,.int .i64)],[.row false 0 41 Sr,.cells [.int .i64,.int .i64,.int .i64]]⟩ [4] (.two .none (.two (.one (.two (.draw 0 [.pure,.pure,.pure,.pure,.pure,.rd [1],.pure,.pure,.pure]) .none)) .none))))) .none))) .none))))))) .none)))))) .none)))))
  (by kernel_rfl) rfl (by kernel_rfl) (by kernel_rfl) ⟨rfl,by unfold TOk;kernel_rfl,gOk_of rfl rfl (zR.2 ⟨qen_crew_Shares _N,(zR.2 ⟨qen_bags_Tidy _N,(zR.2 ⟨en_bags_Tidy _N,(zR.2 ⟨en_keep_same _N,(zR.2 ⟨qen_keep_keyed _N,(zH _)⟩)⟩)⟩)⟩)⟩),iOk_of rfl rfl (zH _),rfl⟩ (fun _x=>by kernel_rfl)
section
variable {n : Int} {a : List Row} {ls : List (List Row)}
theorem SharesOk.key(h:SharesOk n a ls){i:Nat}(hi:i<n.toNat){r:Row}(hr:r∈nth [] ls i):part n r.1=i:=by
 obtain⟨h1,-⟩:=h.ok i hi
 obtain⟨h2,h3⟩:=h1.mem.1 hr
 unfold sel at h3
 by_cases q:part n (ky r).1=i
 ·exact q
 ·rw [zO q,w_zero] at h3
  exact absurd h3.symm h2
theorem SharesOk.sum(h:SharesOk n a ls)(h1:1<=n)(z:Key):(i:Nat)->i<=ls.length->Cg (amt (ls.take i).flatten z) (if part n z.1<i then amt a z else 0)
 | 0,_=>by
  have:¬ part n z.1<((0:Nat):Int):=by
   have:=Int.emod_nonneg z.1 (show n≠0 by omega)
   unfold part
   omega
  rw [zO this];exact Cg.rfl
 | i+1,hi=>by
  have hl:=h.len
  obtain⟨g1,-⟩:=h.ok i (by omega)
  have ih:=SharesOk.sum h h1 z i (by omega)
  rw [take_nth (z:=[]) (by omega),zBJ,amt_append,zAp,zBW,List.append_nil]
  refine (ih.add (g1.amt_cg z)).trans (.of_eq ?_)
  unfold sel
  by_cases q:part n z.1=(i:Int)
  ·rw [zO (by omega),zI q,zI (by omega),Int.zero_add]
  ·rw [zO q,zAm]
   by_cases q2:part n z.1<(i:Int)
   ·rw [zI q2,zI (by omega)]
   ·rw [zO q2,zO (by omega)]
theorem SharesOk.all(h:SharesOk n a ls)(h1:1<=n)(z:Key):Cg (amt ls.flatten z) (amt a z):=by
 have:=h.sum h1 z ls.length (Nat.le_refl _)
 rw [zAN] at this
 have hl:=h.len
 have hb:=Int.emod_lt_of_pos z.1 (show 0<n by omega)
 rwa [zI (by unfold part;omega)] at this
theorem SharesOk.nodup(h:SharesOk n a ls):(ls.flatten.map ky).Nodup:=by
 have hl:=h.len
 unfold List.Nodup
 rw [zAo,List.pairwise_flatten]
 refine⟨fun l hm=>?_,?_⟩
 ·obtain⟨i,hi,rfl⟩:=mem_nth (z:=[]) hm
  have:=rise_nodup (h.ok i (by omega)).1.rise
  unfold List.Nodup at this
  rwa [zAo] at this
 ·rw [zAS]
  intro i j hi hj hij x hx y hy e
  rw [<- nth_lt (z:=[]) hi] at hx
  rw [<- nth_lt (z:=[]) hj] at hy
  have e1:=h.key (by omega) hx
  have e2:=h.key (by omega) hy
  have e3:x.1=y.1:=congrArg (fun k:Key=>k.1) e
  rw [e3,e2] at e1
  omega
theorem SharesOk.row(h:SharesOk n a ls){r:Row}(hr:r∈ls.flatten):r.2.2≠0/\w r.2.2=r.2.2:=by
 have hl:=h.len
 obtain⟨l,hm,hr⟩:=List.mem_flatten.1 hr
 obtain⟨i,hi,rfl⟩:=mem_nth (z:=[]) hm
 obtain⟨h2,h3⟩:=(h.ok i (by omega)).1.mem.1 hr
 exact⟨h2,by rw [<- h3,w_idem]⟩
theorem SharesOk.lens(h:SharesOk n a ls)(h1:1<=n){t:List Row}(ht:IsBag (amt a) t):ls.flatten.length=t.length:=by
 have hin:∀ {l:List Row} {e:Key},amt l e≠0->∃ r∈l,ky r=e:=fun {l} {e} hne=>
  Classical.byContradiction fun hno=>hne (amt_notin fun r hr hk=>hno ⟨r,hr,hk⟩)
 refine Nat.le_antisymm ?_ ?_
 ·have:=keys_le t.length t (Nat.le_refl _) (ls.flatten.map ky) h.nodup (fun e he=>by
   obtain⟨r,hr,rfl⟩:=zq.1 he
   obtain⟨g1,g2⟩:=h.row hr
   refine hin ?_
   rw [ht.val,<- w_eq (h.all h1 (ky r)),amt_mem h.nodup hr,g2]
   exact g1)
  rwa [zAO] at this
 ·have:=keys_le ls.flatten.length ls.flatten (Nat.le_refl _) (t.map ky) (rise_nodup ht.rise) (fun e he=>by
   obtain⟨r,hr,rfl⟩:=zq.1 he
   refine hin fun h0=>?_
   have g1:=ht.nz r hr
   have g2:=ht.val (ky r)
   rw [amt_mem (rise_nodup ht.rise) hr,<- w_eq (h.all h1 (ky r)),h0,w_zero] at g2
   exact g1 g2)
  rwa [zAO] at this
end
theorem law_CrewParts(n:Int)(a:List Row)(_h1:wfS (.int .i64) n)(_h2:wfS (.sl Sr) a):∃ N,D_keep_CrewParts N (n,a,())=some (true,()):=by
 refine⟨1000,?_⟩
 generalize hN:1000=N
 have hN:1000<=N:=by omega
 obtain⟨s1,s2,s3⟩:=Shares_eq hN n a
 simp only [D_keep_CrewParts,keep_CrewParts_8]
 by_cases hb:n<1\/4<n
 ·rw [s1 hb];rfl
 by_cases hl:128<a.length
 ·rw [s2 (by omega) (by omega) hl];rfl
 obtain⟨ls,e0,hok⟩:=s3 (by omega) (by omega) (by omega)
 have hlen:=hok.len
 rw [e0,Option.bind_some,show ((0:Int) != 0)=false from rfl,cond_false]
 simp only [joinD,loopE]
 have hlt:∀ i,i<ls.length->(nth [] ls i).length<=128:=fun i hi=>(hok.ok i (by omega)).2
 have hfl:∀ i,i<=ls.length->(ls.take i).flatten.length<=128*i:=by
  intro i
  induction i with
  | zero=>intro _;simp
  | succ i ih=>
   intro hi
   rw [take_nth (z:=[]) (by omega),zBJ,zY,zAp,zBW,List.append_nil]
   have:=ih (by omega)
   have:=hlt i (by omega)
   omega
 have hno:∀ i,i<ls.length->∀ r∈nth [] ls i,∀ j,j<i->(nth [] ls j).filter (fun q=>q.1==r.1) = []:=fun i hi r hr j hj=>by
  rw [List.filter_eq_nil_iff]
  intro q hq he
  have e1:=hok.key (by omega) hr
  have e2:=hok.key (by omega) hq
  rw [beq_iff_eq.1 he,e1] at e2
  omega
 obtain⟨s',⟨-,h6⟩,e⟩:=loopD_inv (g:=fun (s:Int×List Row) kn=>keep_CrewParts_7 N (fun s=>keep_CrewParts_1 N s.1 s.2.1 s.2.2.1 s.2.2.2) n a ls s.1 s.2 (backE (n,a,ls) kn)) (k:=fun s:Int×List Row=>keep_CrewParts_1 N n a ls s.2) ls.length
  (fun i s=>s.1=(i:Int)/\s.2=(ls.take i).flatten) (N:=N) (s:=((0:Int),[]))
  (by
   rintro i ⟨_,b⟩ hi ⟨rfl,hb⟩
   simp only at hb
   refine⟨((i:Int)+1,(ls.take (i+1)).flatten),⟨by simp,rfl⟩,fun kn=>?_⟩
   simp only [keep_CrewParts_7,lt_d hi,ge0_d,Int.toNat_natCast,Bool.and_self,cond_true,joinD,loopE]
   generalize hL:nth [] ls i=L
   have hL128:L.length<=128:=hL▸hlt i hi
   obtain⟨s',⟨-,g2⟩,e⟩:=loopD_inv (g:=fun (s:Int×List Row) kn'=>keep_CrewParts_6 N (fun s=>keep_CrewParts_2 N (backE (n,a,ls) kn) s.1 s.2.1 s.2.2.1 s.2.2.2.1 s.2.2.2.2) n a ls (i:Int) L (L.length:Int) s.1 s.2 (backE (n,a,ls,(i:Int),L,(L.length:Int)) kn'))
    (k:=fun s:Int×List Row=>kn ((i:Int)+1,s.2)) L.length (fun t s=>s.1=(t:Int)/\s.2=(ls.take i).flatten++L.take t) (N:=N) (s:=((0:Int),b))
    (by
     rintro t ⟨_,b⟩ ht ⟨rfl,hb⟩
     simp only at hb
     subst hb
     refine⟨((t:Int)+1,(ls.take i).flatten++L.take (t+1)),⟨by simp,rfl⟩,fun kn'=>?_⟩
     simp only [keep_CrewParts_6,lt_d ht,ge0_d,Int.toNat_natCast,Bool.and_self,cond_true,joinD,loopE]
     rw [take_nth (z:=((0:Int),(0:Int),(0:Int))) ht]
     have hrm:nth ((0:Int),(0:Int),(0:Int)) L t∈nth [] ls i:=by rw [hL];exact nth_mem ht
     generalize nth ((0:Int),(0:Int),(0:Int)) L t=r at hrm
     refine loopD_pass (n:=i) (by omega) (fun j hj kn''=>?_) (fun kn''=>?_) (by omega)
     ·have hk:=keyed_eq (N:=N) (l:=nth [] ls j) (by have:=hlt j (by omega);omega) (by have:=hlt j (by omega);omega) r.1
      rw [hno i hi r hrm j hj] at hk
      simp only [keep_CrewParts_5,lt_d hj,ge0_d,Int.toNat_natCast,lt_d (show j<ls.length by omega),Bool.and_self,cond_true,hk,Option.map_some,Option.bind_some,List.length_nil]
      rw [show decide (((0:Nat):Int)>0)=false from rfl,cond_false,ix1 hj (by omega),backE_eq]
     ·have hcap:decide ((((ls.take i).flatten++L.take t).length+([r]:List Row).length)*24<=140737488355328)=true:=d_true (by
       have:=hfl i (by omega)
       simp only [zAZ]
       rw [zY,zAA]
       omega)
      have hcap':decide ((((ls.take i).flatten++L.take t).length+([(r.1,r.2.1,r.2.2)]:List Row).length)*24<=140737488355328)=true:=hcap
      simp only [keep_CrewParts_5,lt_self,cond_false,keep_CrewParts_4,hcap',show Nat.ble 1 24=true from rfl,Bool.and_self,cond_true,keep_CrewParts_3,ix1 ht (by omega),backE_eq,zS])
    (by
     rintro⟨_,b⟩ ⟨rfl,hb⟩ kn'
     simp only [keep_CrewParts_6,lt_self,cond_false,keep_CrewParts_2,ix1 hi (by omega),backE_eq])
    (by omega) ⟨rfl,by simp [hb]⟩
   rw [zAN] at g2
   refine e.trans ?_
   rw [g2,take_nth (z:=[]) hi,zBJ,zAp,zBW,List.append_nil,hL])
  (by
   rintro⟨_,b⟩ ⟨rfl,hb⟩ kn
   simp only [keep_CrewParts_7,lt_self,cond_false])
  (by omega) ⟨rfl,by simp⟩
 rw [zAN] at h6
 refine e.trans ?_
 simp only [h6]
 obtain⟨t,c,t1,t2⟩:=Tidy_eq hN a
 obtain⟨u,x,u1,u2⟩:=Tidy_eq hN ls.flatten
 have hc:c=0:=t2.is0 hl (m:=a) (by omega) (fun e he=>.of_eq (amt_notin he))
 obtain⟨t3,-,t4⟩:=t2.ok hc
 have hlens:=hok.lens (by omega) t4
 have hsame:=t2.same u2 (fun e=>(hok.all (by omega) e).symm) ⟨fun h=>absurd h hl,fun h=>absurd h (by omega)⟩
 obtain⟨rfl,rfl⟩:=hsame
 simp only [keep_CrewParts_1,t1,u1,Option.bind_some]
 rw [beq_iff_eq.2 (show (ls.length:Int)=n by omega),cond_true,beq_iff_eq.2 (show (ls.flatten.length:Int)=t.length by omega),cond_true,same_eq (by omega) (by omega),Option.bind_some,decide_eq_true ⟨rfl,rfl⟩]
set_option maxRecDepth 100000 in
theorem lifted_CrewParts(os:Os)(started:os.Started)(H:Type)(enc:TypeId×Value->H) :
  ReturnsInHanded {} Try.checked os 5 .any (Rows.crewPartsSpec.pre6 enc Try.prog Try.f5 Rows.crewPartsRow.domain false) (Rows.crewPartsSpec.post enc Try.prog Try.f5 false true false false):=by
 refine returnsInHanded_of_change_sized (C:=Try.checked) own started (by kernel_rfl) Try.func5
  (ChangeSpec.witness6 (enc:=enc) (C:=Try.checked) false ⟨#[],#[.int .i64 0,.slice none 0 0],[]⟩ 8 (by kernel_rfl) (by kernel_rfl) (by kernel_rfl) (by kernel_rfl)) ?_
 intro W base args ds gs before hval0 hW _ hsz0 _
 have hgw:GW [] W:=fun _ h=>nomatch h
 have hval:∀ (j:Nat) t v,Try.f5.params[j]? = some t->args[j]? = some v->Value.okWide Try.prog W .any base t v:=hval0
 have hW':=hW
 obtain⟨p,q,hA0,hV,rfl,_,_⟩:=hW
 have hA:DataW.TrodAll enc Try.prog W 0 (fun _=>true) true Try.f5.params.toList args.toList ds p:=hA0
 rw [Try.params5] at hA hval
 obtain⟨v0,vs0,d0,ds0,p0,q0,hargs,rfl,rfl,h0,r0⟩:=trodAll_cons hA
 obtain⟨v1,vs1,d1,ds1,p1,q1,rfl,rfl,rfl,h1,r1⟩:=trodAll_cons r0
 obtain⟨rfl,rfl,rfl⟩:=trodAll_nil r1
 obtain rfl:args = #[v0,v1]:=by cases args;simp_all
 obtain⟨rfl,rfl⟩:=trodVars_none hV
 have hall:=zg.1 hsz0
 clear hA0 hval0 hsz0
 simp only [List.append_nil] at hW'
 have hlt0:∀ x∈p0,x.block<W.heap.size:=fun x hx=>hW'.lt x (by simp [hx])
 have hlt1:∀ x∈p1,x.block<W.heap.size:=fun x hx=>hW'.lt x (by simp [hx])
 obtain⟨x0,g0,w0⟩:=open_kd (k:=.dat (.int .i64)) (by kernel_rfl) (hval 0 3 v0 rfl rfl) h0
 obtain⟨x1,g1,w1⟩:=open_kd (k:=.dat (.sl Sr)) (by kernel_rfl) (hval 1 36 v1 rfl rfl) h1
 obtain⟨N,hN⟩:=law_CrewParts x0 x1 w0 w1
 refine (sp_keep_CrewParts N (fun _=>False) W (x0,x1,()) (true,()) [v0,v1] (fun _ h=>h.elim) hgw ⟨v0,_,rfl,g0,⟨v1,_,rfl,g1,rfl⟩⟩ hN).mono ?_
 rintro e W' ⟨v,rfl,hg,hr⟩
 replace hg:=hg.old
 have hr:v=.bool true:=by simpa only [kvals,retV,Kd.val,Go.Abs.enc,RV] using hr
 subst hr
 exact⟨_,rfl,_,_,_,[],p0++(p1 ++ []),[],hW',(trodAll_cons_mk (shut_bool (show Try.prog.underlying 4=some .bool by kernel_rfl) _) trodAll_mk0),(trodAll_cons_mk (Below.trod laidOut (by kernel_rfl) (zn (by kernel_rfl)) h0 hg hlt0) (trodAll_cons_mk (Below.trod laidOut (by kernel_rfl) (zn (by kernel_rfl)) h1 hg hlt1) trodAll_mk0)),rfl,hg.frame _,fun h=>by cases h⟩
theorem crewParts_holds:Rows.CrewPartsSaid:=
 OpenClaim.holds_of_wide 5 Try.f5 rfl rfl rfl rfl rfl rfl rfl ⟨rfl,rfl,rfl,rfl,rfl⟩ rfl rfl rfl rfl rfl (by kernel_rfl) Try.func5 (by kernel_rfl)
  (zn (by kernel_rfl)) (by unfold Func.isWrapper;first | (rw [zI (by decide +kernel)];kernel_rfl) | (rw [zO (by decide +kernel)];exact⟨rfl,rfl⟩))
  (fun os started H enc _=>lifted_CrewParts os started H enc)
end Go.Proofs.Ytcjecibocjbdmaa
end
