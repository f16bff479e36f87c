import Derived.Test.YtcjecibocjbdmaaBg9
import Derived.Test.YtcjecibocjbdmaaBagP
import Derived.Test.YtcjecibocjbdmaaAbsMp
namespace Go.Proofs.Ytcjecibocjbdmaa
open Go.Abs Go.Bag
theorem lt_d{i m:Nat}(h:i<m):decide ((i:Int)<(m:Int))=true:=d_true (by omega)
theorem lt_self(m:Nat):decide ((m:Int)<(m:Int))=false:=d_false (by omega)
theorem ge0_d(i:Nat):decide ((0:Int)<=(i:Int))=true:=d_true (by omega)
theorem mem_nth{α:Type}{z a:α}{xs:List α}(h:a∈xs):∃ t,t<xs.length/\nth z xs t=a:=by
 obtain⟨t,ht,e⟩:=zAy h
 exact⟨t,ht,by rw [nth_lt ht,e]⟩
theorem ix1{n i:Nat}(h:i<n)(hn:n<=4611686018427387904):IntKind.i64.wrap ((i:Int)+1)=(i:Int)+1:=w64 (by omega) (by omega)
theorem bool_eq{a b:Bool}(h:a=true↔b=true):a=b:=by cases a <;> cases b <;> simp_all
theorem loopD_s{R S:Type}(f:S->(S->Option R)->Option R)(n:Nat)(s:S):loopD f (n+1) s=f s (loopD f n):=rfl
theorem take_nth{α:Type}{z:α}{xs:List α}{i:Nat}(h:i<xs.length):xs.take (i+1)=xs.take i ++ [nth z xs i]:=by
 rw [zBh h,nth_lt h]
abbrev kS:Sh:=.pair (.int .i64) (.int .i64)
abbrev vS:Sh:=.int .i64
abbrev Bg:Type:=Int×List (Int×(Int×Int)×Int)
abbrev kSn:noSl kS=true:=rfl
structure BOk (f:Key->Int) (d:Bg):Prop where
 ok:MpOk kS vS d
 nz:∀ e∈d.2,e.2.2≠0
 val:∀ e:Int×Int,mpGet kS vS d e=w (f e)
theorem BOk.empty:BOk (fun _=>0) ((0:Int),[]):=⟨MpOk.empty,(fun e h=>by cases h),fun e=>by rw [w_zero];rfl⟩
theorem BOk.cg{f g:Key->Int}{d:Bg}(h:BOk f d)(hg:∀ e,Cg (f e) (g e)):BOk g d:=⟨h.ok,h.nz,fun e=>(h.val e).trans (hg e)⟩
theorem Add_eq{N:Nat}{f:Key->Int}{d:Bg}(h:BOk f d)(e:Int×Int)(n:Int) :
  ∃ d',D_bags_Bag_Add_h N (e,n,d)=some d'/\BOk (fun z=>f z+if z=e then n else 0) d'/\d'.2.length<=d.2.length+1:=by
 have hs:mpStands kS vS (mpEnt kS vS d e) (mpWhen kS vS d e)=true:=mpStands_ent (k:=kS) (v:=vS) d e
 have hp:∀ y:Int,mpAt kS vS (mpEnt kS vS d e) (mpWhen kS vS d e) y=mpPut kS vS d e y:=fun y=>mpAt_ent (k:=kS) (v:=vS) h.ok e y
 have hg:∀ y:Int,mpGet kS vS (mpPut kS vS d e y) e=y:=fun y=>mput_get (k:=kS) (v:=vS) kSn d e y
 have hee:(e.1,e.2)=e:=rfl
 simp only [D_bags_Bag_Add_h,bags_Bag_Add_h_1,hee,hs,cond_true,hp,hg,h.val]
 have hw:IntKind.i64.wrap (w (f e)+n)=w (f e+n):=((cg_w (f e)).add Cg.rfl:Cg _ _)
 rw [hw]
 have hput:=h.ok.put kSn e (w (f e+n))
 have hne:∀ z:Int×Int,z≠e->mpGet kS vS (mpPut kS vS d e (w (f e+n))) z=w (f z):=fun z hz=>(mput_get_ne (k:=kS) (v:=vS) kSn d hz _).trans (h.val z)
 have hnz:∀ x∈(mpPut kS vS d e (w (f e+n))).2,x.2.1≠e->x.2.2≠0:=fun x hx hxe=>by
  obtain⟨g1,g2⟩:=mem_get (k:=kS) (v:=vS) kSn hput hx
  rw [mput_has_ne (k:=kS) (v:=vS) kSn d hxe] at g1
  rw [mput_get_ne (k:=kS) (v:=vS) kSn d hxe] at g2
  obtain⟨y,y1,y2,y3⟩:=has_mem (k:=kS) (v:=vS) g1
  rw [<- g2,<- y3];exact h.nz y y1
 have hlen:=put_len (k:=kS) (v:=vS) d e (w (f e+n))
 by_cases q:w (f e+n)=0
 ·rw [show (w (f e+n)==0)=true from beq_iff_eq.2 q,cond_true]
  refine⟨_,rfl,⟨hput.del e,fun x hx=>?_,fun z=>?_⟩,zm (del_len _ _) hlen⟩
  ·have hx':=(drop_sub (x:=e) (mpPut kS vS d e (w (f e+n))).2).subset hx
   refine hnz x hx' fun hxe=>?_
   obtain⟨g1,-⟩:=mem_get (k:=kS) (v:=vS) kSn (hput.del e) hx
   rw [hxe,del_has (k:=kS) (v:=vS) kSn hput] at g1
   cases g1
  ·by_cases hz:z=e
   ·subst hz;rw [del_get (k:=kS) (v:=vS) kSn hput,zG rfl,q];rfl
   ·rw [del_get_ne (k:=kS) (v:=vS) _ hz,hne z hz,zJ hz,zBL]
 ·rw [show (w (f e+n)==0)=false from zAN q,cond_false]
  refine⟨_,rfl,⟨hput,fun x hx=>?_,fun z=>?_⟩,hlen⟩
  ·by_cases hxe:x.2.1=e
   ·obtain⟨-,g2⟩:=mem_get (k:=kS) (v:=vS) kSn hput hx
    rw [hxe,hg] at g2
    rw [<- g2];exact q
   ·exact hnz x hx hxe
  ·by_cases hz:z=e
   ·subst hz;rw [hg,zG rfl]
   ·rw [hne z hz,zJ hz,zBL]
theorem Pour_eq{N:Nat}{f:Key->Int}{d:Bg}(h:BOk f d)(l:List Row)(n:Int)(hN:l.length<N)(hl:l.length<=4611686018427387904) :
  ∃ d',D_bags_Bag_Pour_h N (l,n,d)=some d'/\BOk (fun z=>f z+n*amt l z) d'/\d'.2.length<=d.2.length+l.length:=by
 simp only [D_bags_Bag_Pour_h,bags_Bag_Pour_h_2,loopE]
 obtain⟨s',⟨h1,h2,h3⟩,e⟩:=loopD_inv (g:=fun (s:Int×Bg) kn=>bags_Bag_Pour_h_1 N n l (l.length:Int) s.1 s.2 (backE (n,l,(l.length:Int)) kn)) (k:=fun s:Int×Bg=>some s.2) l.length
  (fun i s=>s.1=(i:Int)/\BOk (fun z=>f z+n*amt (l.take i) z) s.2/\s.2.2.length<=d.2.length+i) (N:=N) (s:=((0:Int),d))
  (by
   rintro i ⟨_,b⟩ hi ⟨rfl,hb,hlen⟩
   simp only at hb hlen
   obtain⟨b',e1,e2,e3⟩:=Add_eq (N:=N) hb (ky (nth (0,0,0) l i)) (IntKind.i64.wrap (n*(nth ((0:Int),(0:Int),(0:Int)) l i).2.2))
   refine⟨((i:Int)+1,b'),⟨by simp,e2.cg fun z=>?_,by simp only;omega⟩,fun kn=>?_⟩
   ·rw [take_nth (z:=((0:Int),(0:Int),(0:Int))) hi,amt_append]
    simp only [amt,zBL]
    generalize nth ((0:Int),(0:Int),(0:Int)) l i=r
    rw [Int.mul_add,<- Int.add_assoc]
    refine Cg.rfl.add ?_
    by_cases hz:z=ky r
    ·rw [zG hz,zG hz.symm];exact cg_w _
    ·rw [zJ hz,zJ fun h=>hz h.symm,Int.mul_zero];exact Cg.rfl
   ·have e1':D_bags_Bag_Add_h N (((nth ((0:Int),(0:Int),(0:Int)) l i).1,(nth ((0:Int),(0:Int),(0:Int)) l i).2.1),IntKind.i64.wrap (n*(nth ((0:Int),(0:Int),(0:Int)) l i).2.2),b)=some b':=e1
    simp only [bags_Bag_Pour_h_1,lt_d hi,ge0_d,Int.toNat_natCast,Bool.and_self,cond_true,e1',Option.bind_some,ix1 hi hl,backE_eq])
  (by
   rintro⟨_,b⟩ ⟨rfl,hb,hlen⟩ kn
   simp only [bags_Bag_Pour_h_1,lt_self,cond_false])
  hN ⟨rfl,h.cg fun z=>by simp only [List.take_zero,amt,Int.mul_zero,zBL];exact Cg.rfl,Nat.le_refl _⟩
 exact⟨s'.2,e,by simpa only [zAR] using h2,h3⟩
theorem Compare_eq(N:Nat)(a b:Int):D_cmp_Compare_int64 N (a,b,())=some (if a<b then -1 else if a>b then 1 else 0,()):=by
 have hn:∀ x:Int,D_cmp_isNaN_int64 N (x,())=some (false,()):=fun x=>by
  simp only [D_cmp_isNaN_int64,cmp_isNaN_int64_1,bne_self_eq_false]
 simp only [D_cmp_Compare_int64,cmp_Compare_int64_1,hn,Option.bind_some,cond_false]
 by_cases h1:a<b
 ·rw [d_true h1,zG h1];rfl
 rw [d_false h1,zJ h1]
 by_cases h2:a>b
 ·rw [d_true h2,zG h2];rfl
 ·rw [d_false h2,zJ h2];rfl
def rcmp(p q:Row):Int:=if p.1<q.1 then -1 else if p.1>q.1 then 1 else if p.2.1<q.2.1 then -1 else if p.2.1>q.2.1 then 1 else 0
theorem Or_eq{N:Nat}(hN:10<=N)(a b:Int):D_cmp_Or_int N ([a,b],())=some (if a=0 then b else a,()):=by
 obtain⟨M,rfl⟩:∃ M,N=M+3:=⟨N - 3,by omega⟩
 simp only [D_cmp_Or_int,cmp_Or_int_3,joinD,loopE]
 have hb:∀ (K:Int->_) (i:Nat),i<([a,b]:List Int).length->∀ kn,cmp_Or_int_2 (M+3) K 0 [a,b] (([a,b]:List Int).length:Int) (i:Int) (backE ((0:Int),[a,b],(([a,b]:List Int).length:Int)) kn)=if nth 0 [a,b] i=0 then kn ((i:Int)+1) else some (nth 0 [a,b] i,()):=fun K i hi kn=>by
  have hi2:i<2:=hi
  simp only [cmp_Or_int_2,lt_d hi,ge0_d,Int.toNat_natCast,Bool.and_self,cond_true,ix1 hi2 (by omega),backE_eq]
  by_cases q:nth 0 [a,b] i=0
  ·rw [zG q,q,bne_self_eq_false];rfl
  ·rw [zJ q,show (nth 0 [a,b] i != 0)=true from bne_iff_ne.2 q];rfl
 have h0:nth 0 [a,b] 0=a:=rfl
 have h1:nth 0 [a,b] 1=b:=rfl
 rw [loopD_s]
 have e0:=hb (fun s=>cmp_Or_int_1 (M+3) s) 0 (by simp)
 rw [h0] at e0
 refine (e0 _).trans ?_
 by_cases ha:a=0
 ·rw [zG ha,zG ha,loopD_s]
  have e1:=hb (fun s=>cmp_Or_int_1 (M+3) s) 1 (by simp)
  rw [h1] at e1
  refine (e1 _).trans ?_
  by_cases hbz:b=0
  ·rw [zG hbz,loopD_s]
   have:=lt_self ([a,b]:List Int).length
   simp only [cmp_Or_int_2]
   rw [show (((1:Nat):Int)+1)=(([a,b]:List Int).length:Int) from rfl,this,cond_false,cmp_Or_int_1,hbz]
  ·rw [zJ hbz]
 ·rw [zJ ha,zJ ha]
theorem rows_cmp{N:Nat}(hN:10<=N)(p q:Row):D_bags_Bag_Rows_c1 N (p,q,())=some (rcmp p q,()):=by
 simp only [D_bags_Bag_Rows_c1,bags_Bag_Rows_c1_1,Compare_eq N p.1 q.1,Compare_eq N p.2.1 q.2.1,Option.bind_some,Or_eq hN,rcmp]
 by_cases h1:p.1<q.1
 ·simp [zG h1]
 ·by_cases h2:p.1>q.1
  ·simp [zJ h1,zG h2]
  ·simp [zJ h1,zJ h2]
theorem rcmp_iff(p q:Row):rcmp p q<0↔rlt p q:=by
 unfold rcmp rlt
 by_cases h1:p.1<q.1
 ·rw [zG h1];omega
 ·rw [zJ h1]
  by_cases h2:p.1>q.1
  ·rw [zG h2];omega
  ·rw [zJ h2]
   by_cases h3:p.2.1<q.2.1
   ·rw [zG h3];omega
   ·rw [zJ h3]
    split <;> omega
theorem rcmp_lt(p q:Row):decide (rcmp p q<0)=decide (rlt p q):=bool_eq (by rw [zK,zK];exact rcmp_iff p q)
theorem sort_rows{N:Nat}(hN:10<=N){xs:List Row}(hl:xs.length<4611686018427387904)(hn:(xs.map ky).Nodup) :
  ∃ ys:List Row,sortR (fun p q=>(D_bags_Bag_Rows_c1 N (p,q,())).map (·.1)) xs=some ys/\ys.Perm xs/\ys.Pairwise rlt:=by
 have hlt:∀ a b:Row,ltB (fun p q:Row=>(D_bags_Bag_Rows_c1 N (p,q,())).map (·.1)) a b=decide (rlt a b):=fun a b=>by
  unfold ltB
  simp only [rows_cmp hN a b,Option.map_some]
  exact rcmp_lt a b
 have hok:SortOk (fun p q:Row=>(D_bags_Bag_Rows_c1 N (p,q,())).map (·.1)) xs:=by
  refine⟨hl,fun a _ b _=>⟨rcmp a b,by rw [rows_cmp hN];rfl⟩,fun a _=>by rw [hlt];exact d_false (rlt_irrefl a),fun a _ b _ c _ h1 h2=>?_,fun a ha b hb h1 h2=>?_⟩
  ·rw [hlt] at h1 h2 ⊢
   exact d_true (rlt_trans (zk h1) (zk h2))
  ·rw [hlt] at h1 h2
   have hk:=rlt_total (zAm h1) (zAm h2)
   have e1:=amt_mem hn ha
   have e2:=amt_mem hn hb
   rw [hk,e2] at e1
   unfold ky at hk
   simp only [zL] at hk
   exact Prod.ext hk.1 (Prod.ext hk.2 e1.symm)
 obtain⟨ys,h1,h2,h3⟩:=sortR_ok hok
 refine⟨ys,h1,h2,?_⟩
 have hny:(ys.map ky).Nodup:=(h2.map ky).nodup_iff.2 hn
 have hny':ys.Pairwise fun a b=>ky a≠ky b:=by rw [<- zAq];exact hny
 refine (h3.and hny').imp fun {a b} hab=>?_
 obtain⟨p1,p2⟩:=hab
 rw [hlt] at p1
 exact Classical.byContradiction fun hno=>p2 (rlt_total hno (zAm p1))
def rowOf(e:Int×(Int×Int)×Int):Row:=(e.2.1.1,e.2.1.2,e.2.2)
theorem Rows_eq{N:Nat}{f:Key->Int}{d:Bg}(h:BOk f d)(hN:d.2.length+10<N)(hb:d.2.length*24<=140737488355328) :
  ∃ out:List Row,D_bags_Bag_Rows_h N d=some (out,d)/\IsBag f out/\out.length=d.2.length:=by
 have hn:((d.2.map rowOf).map ky).Nodup:=by
  rw [List.map_map];exact h.ok.keys
 obtain⟨ys,s1,s2,s3⟩:=sort_rows (N:=N) (by omega) (xs:=d.2.map rowOf) (by rw [zAO];omega) hn
 have hsort:∀ xs:List Row,xs.Perm (d.2.map rowOf)->sortR (fun p q=>(D_bags_Bag_Rows_c1 N (p,q,())).map (·.1)) xs=some ys:=fun xs hp=>by
  obtain⟨zs,t1,t2,t3⟩:=sort_rows (N:=N) (by omega) (xs:=xs) (by rw [hp.length_eq,zAO];omega) ((hp.map ky).nodup_iff.2 hn)
  rw [t1]
  exact congrArg some (sorted_uniq (r:=fun a b=>rlt a b) zs ys (fun a _ b _ h1 h2=>absurd (rlt_trans h1 h2) (rlt_irrefl a)) ((t2.trans hp).trans s2.symm) t3 s3)
 refine⟨ys,?_,⟨s3,fun r hr=>?_,fun e=>?_⟩,by rw [s2.length_eq,zAO]⟩
 ·simp only [D_bags_Bag_Rows_h,bags_Bag_Rows_h_3,joinD,loopE]
  refine range_loop (k:=kS) (v:=vS) (ys,d) (fun rest s=>(s++rest.map rowOf).Perm (d.2.map rowOf)) (fun dd s kn hI hkn=>?_) N ((0:Int),d.2) [] (by exact .refl _) (by show d.2.length<N;omega)
  simp only [bags_Bag_Rows_h_2]
  refine nextE_run (k:=kS) (v:=vS) (fun hr=>?_) (fun i x hx=>?_)
  ·rw [hr,List.map_nil,List.append_nil] at hI
   simp only [bags_Bag_Rows_h_1,hsort s hI,Option.bind_some]
  ·have hl:=hI.length_eq
   simp only [zg,zAO] at hl
   have hpos:=(zQ.1 hx).1
   rw [d_true (show (s.length+([(x.2.1.1,(x.2.1.2,x.2.2))]:List Row).length)*24<=140737488355328 by simp only [zAn];omega),show Nat.ble 1 24=true from rfl,Bool.and_self,cond_true,backE_eq]
   refine hkn x _ _ ?_ (erase_len hx)
   refine List.Perm.trans ?_ hI
   rw [zW]
   exact (erase_perm rowOf hx).append_left s
 ·obtain⟨e,he,rfl⟩:=zi.1 (s2.subset hr)
  exact h.nz e he
 ·rw [amt_perm s2 e,<- h.val e]
  cases q:mpHas kS vS d e with
  | true=>
   obtain⟨x,x1,x2,x3⟩:=has_mem (k:=kS) (v:=vS) q
   have:=amt_mem hn (zi.2 ⟨x,x1,rfl⟩)
   have hk:ky (rowOf x)=e:=x2
   rw [hk] at this
   rw [this];exact x3
  | false=>
   rw [get_zero (k:=kS) (v:=vS) q]
   refine amt_notin fun r hr hk=>?_
   obtain⟨x,hx,rfl⟩:=zi.1 hr
   have:=(mem_get (k:=kS) (v:=vS) kSn h.ok hx).1
   have hk':x.2.1=e:=hk
   rw [hk',q] at this
   cases this
abbrev rS:Sh:=.pair (.int .i64) (.pair (.int .i64) (.int .i64))
theorem Same_eq{N:Nat}{a b:List Row}(hN:a.length<N)(hl:a.length<=4611686018427387904 - 1):D_ref_BagsSame N (a,b,())=some (decide (a=b),()):=by
 simp only [D_ref_BagsSame,ref_BagsSame_3,joinD,loopE]
 by_cases hab:a.length=b.length
 case neg=>
  rw [show (((a.length:Nat):Int) != ((b.length:Nat):Int))=true from bne_iff_ne.2 (by omega),cond_true,d_false fun h=>hab (by rw [h])]
 rw [show (((a.length:Nat):Int) != ((b.length:Nat):Int))=false by rw [hab];exact bne_self_eq_false _,cond_false]
 have heta:∀ x:Row,(x.1,x.2.1,x.2.2)=x:=fun _=>rfl
 have hb:∀ (K:Unit->_) (i:Nat),i<a.length->∀ kn,ref_BagsSame_2 N K a b (i:Int) (backE (a,b) kn)=if nth (0,0,0) a i=nth (0,0,0) b i then kn ((i:Int)+1) else some (false,()):=fun K i hi kn=>by
  simp only [ref_BagsSame_2,lt_d hi,lt_d (show i<b.length by omega),ge0_d,Int.toNat_natCast,Bool.and_self,cond_true,heta,ix1 hi (by omega),backE_eq]
  by_cases q:nth ((0:Int),(0:Int),(0:Int)) a i=nth (0,0,0) b i
  ·rw [zG q,show eqD rS (nth (0,0,0) a i) (nth (0,0,0) b i)=true from (eqD_iff (k:=rS) rfl).2 q];rfl
  ·rw [zJ q,show eqD rS (nth (0,0,0) a i) (nth (0,0,0) b i)=false from eqD_ne (k:=rS) rfl q];rfl
 by_cases q:a=b
 ·rw [d_true q]
  refine loopD_pass (n:=a.length) (by omega) (fun i hi kn=>by rw [hb _ i hi,zG (by rw [q])]) (fun kn=>?_) (by omega)
  simp only [ref_BagsSame_2,lt_self,cond_false,ref_BagsSame_1]
 ·rw [d_false q]
  have hex:∃ i,i<a.length/\¬ nth ((0:Int),(0:Int),(0:Int)) a i=nth (0,0,0) b i:=Classical.byContradiction fun hno=>q (zBR hab fun i h1 h2=>by
   rw [<- nth_lt (z:=((0:Int),(0:Int),(0:Int))) h1,<- nth_lt (z:=((0:Int),(0:Int),(0:Int))) h2]
   exact Classical.byContradiction fun h=>hno ⟨i,h1,h⟩)
  exact loopD_hit (n:=a.length) (by omega) (fun i=>¬ nth ((0:Int),(0:Int),(0:Int)) a i=nth (0,0,0) b i) (fun i hi hx kn=>by rw [hb _ i hi,zJ hx]) (fun i hi hx kn=>by rw [hb _ i hi,zG (Decidable.not_not.1 hx)]) (by omega) hex
theorem total_eq{N:Nat}{l:List Row}(hN:l.length<N)(hl:l.length<=4611686018427387904 - 1):D_keep_total N (l,())=some (w (tot l),()):=by
 simp only [D_keep_total,keep_total_3,joinD,loopE]
 obtain⟨s',hI,e⟩:=loopD_inv (g:=fun (s:Int×Int) kn=>keep_total_2 N (fun s=>keep_total_1 N s) l (l.length:Int) s.1 s.2 (backE (l,(l.length:Int)) kn)) (k:=fun s:Int×Int=>some (s.1,())) l.length
  (fun i s=>s.2=(i:Int)/\s.1=w (tot (l.take i))) (N:=N) (s:=((0:Int),(0:Int)))
  (by
   rintro i ⟨_,_⟩ hi ⟨rfl,rfl⟩
   refine⟨(w (tot (l.take (i+1))),(i:Int)+1),⟨by simp,rfl⟩,fun kn=>?_⟩
   have h1:IntKind.i64.wrap (w (tot (l.take i))+(nth ((0:Int),(0:Int),(0:Int)) l i).2.2)=w (tot (l.take (i+1))):=by
    rw [take_nth (z:=((0:Int),(0:Int),(0:Int))) hi,tot_append]
    simp only [tot,zBL]
    exact (cg_w _).add Cg.rfl
   simp only [keep_total_2,lt_d hi,ge0_d,Int.toNat_natCast,Bool.and_self,cond_true,ix1 hi (by omega),backE_eq,h1])
  (by
   rintro⟨_,_⟩ ⟨rfl,rfl⟩ kn
   simp only [keep_total_2,lt_self,cond_false,keep_total_1])
  (by omega) ⟨rfl,by simp only [List.take_zero,tot,w_zero]⟩
 rw [e,hI.2,zAR]
end Go.Proofs.Ytcjecibocjbdmaa
