import Derived.Test.YtcjecibocjbdmaaCrw
namespace Go.Proofs.Ytcjecibocjbdmaa
open Go.Abs Go.Bag
theorem check_eq{N:Nat}(hN:10<=N)(n:Int)(a:List Row):D_crew_check N (n,[a],())=some (if n<1\/4<n then 2 else if 128<a.length then 1 else 0,()):=by
 simp only [D_crew_check,crew_check_1]
 by_cases h1:n<1
 ·rw [d_true h1,zI (.inl h1)];rfl
 rw [d_false h1,cond_false]
 by_cases h2:n>4
 ·rw [d_true h2,zI (.inr h2)];rfl
 rw [d_false h2,cond_false,zO (by omega),Large_eq (ls:=[a]) (by show 1<N;omega) (by simp),Option.bind_some]
 by_cases h3:128<a.length
 ·rw [zI h3,d_true ⟨a,List.mem_singleton_self a,h3⟩];rfl
 ·rw [zO h3,d_false (fun ⟨l,hl,h⟩=>h3 (by rw [zAM.1 hl] at h;exact h))];rfl
def part(n k:Int):Int:=k % n
def sel(n:Int)(a:List Row)(i:Nat)(z:Key):Int:=if part n z.1=i then amt a z else 0
theorem Add_clock{N:Nat}{e:Int×Int}{n:Int}{d d':Bg}(h:D_bags_Bag_Add_h N (e,n,d)=some d'):d.1<=d'.1:=by
 have hE:∀ x:Int×Int,d.1<=(mpEnt kS vS d x).1:=fun x=>by
  unfold mpEnt
  cases mpHas kS vS d x <;> simp only [cond_true,cond_false] <;> omega
 simp only [D_bags_Bag_Add_h,bags_Bag_Add_h_1] at h
 have ht:∀ {b:Bool} {x y:Option Bg},(bif b then x else y)=some d'->x=some d'\/y=some d':=fun {b} {x} {y} h=>by cases b with | true=>exact .inl h | false=>exact .inr h
 rcases ht h with h | h
 ·rcases ht h with h | h
  ·cases h;exact hE _
  ·cases h;exact hE _
 ·cases h
structure PartsOk (n:Int) (a:List Row) (ds:List Bg):Prop where
 len:ds.length=n.toNat
 ok:∀ i,i<n.toNat->BOk (sel n a i) (nth ((-1:Int),[]) ds i)/\0<=(nth ((-1:Int),[]) ds i).1/\(nth ((-1:Int),[]) ds i).2.length<=a.length
theorem split_eq{N:Nat}(hN:1000<=N)(n:Int)(a:List Row)(h1:1<=n)(h4:n<=4)(ha:a.length<=128):∃ (t:Nat) (ds:List Bg),D_crew_split_h N (n,a)=some (t,ds)/\PartsOk n a ds:=by
 obtain⟨m,rfl⟩:∃ m:Nat,n=m:=⟨n.toNat,by omega⟩
 have hz:∀ (ds:List Bg) (i:Nat),i<ds.length->nth ((0:Int),[]) ds i=nth ((-1:Int),[]) ds i:=fun ds i hi=>by rw [nth_lt hi,nth_lt hi]
 have hmod:∀ k:Int,(if k.tmod m<0 then IntKind.i64.wrap (k.tmod m+m) else k.tmod m)=part m k/\0<=part m k/\part m k<m:=fun k=>by
  have hm0:(m:Int)≠0:=by omega
  have e1:=Int.emod_nonneg k hm0
  have e2:=Int.emod_lt_of_pos k (show (0:Int)<m by omega)
  unfold part
  refine⟨?_,e1,e2⟩
  have e3:=Int.tmod_eq_emod (a:=k) (b:=m)
  by_cases hc:0<=k\/(m:Int) ∣ k
  ·rw [zI hc] at e3
   have e3:k.tmod m=k % m:=by rw [e3];simp
   rw [e3,zO (by omega)]
  ·rw [zO hc] at e3
   simp only [Int.natAbs_natCast] at e3
   have e4:k % m - m<0:=by omega
   rw [e3,zI e4,Int.sub_add_cancel]
   exact w64 (by omega) (by omega)
 simp only [D_crew_split_h,crew_split_h_5,joinD,loopE]
 rw [ge0_d,d_true (Int.le_refl _),d_true (show (m:Int)*8<=281474976710656 by omega)]
 simp only [Bool.and_self,cond_true,Int.toNat_natCast,List.length_replicate]
 obtain⟨s',⟨-,hl,hs⟩,e⟩:=loopD_inv (g:=fun (s:Int×List Bg) kn=>crew_split_h_4 N (fun s=>crew_split_h_3 N s.1 s.2.1 s.2.2.1 s.2.2.2) (m:Int) a 0 (m:Int) s.1 s.2 (backE ((m:Int),a,0,(m:Int)) kn)) (k:=fun s:Int×List Bg=>crew_split_h_3 N (m:Int) a 0 s.2) m
  (fun i s=>s.1=(i:Int)/\s.2.length=m/\∀ j,j<i->nth ((-1:Int),[]) s.2 j=((0:Int),[])) (N:=N) (s:=((0:Int),List.replicate m ((-1:Int),([]:List (Int×(Int×Int)×Int)))))
  (by
   rintro i ⟨_,b⟩ hi ⟨rfl,hb,hj⟩
   simp only at hb hj
   refine⟨((i:Int)+1,b.set i ((0:Int),[])),⟨by simp,by simp [hb],fun j hj'=>?_⟩,fun kn=>?_⟩
   ·simp only
    rw [nth_set (by omega)]
    by_cases q:i=j
    ·rw [zI q]
    ·rw [zO q];exact hj j (by omega)
   ·simp only [crew_split_h_4,lt_d hi,ge0_d,Int.toNat_natCast,hb,Bool.and_self,cond_true,ix1 hi (by omega),backE_eq])
  (by
   rintro⟨_,b⟩ ⟨rfl,hb,hj⟩ kn
   simp only [crew_split_h_4,lt_self,cond_false])
  (by omega) ⟨rfl,by simp,fun j hj=>by omega⟩
 obtain⟨_,ds0⟩:=s'
 simp only at hl hs e
 refine (show _=_ from e) ▸ ?_
 clear e
 simp only [crew_split_h_3,joinD,loopE]
 have hp0:∀ i,i<m->BOk (sel m (a.take 0) i) (nth ((-1:Int),[]) ds0 i)/\0<=(nth ((-1:Int),[]) ds0 i).1/\(nth ((-1:Int),[]) ds0 i).2.length<=0:=fun i hi=>by
  rw [hs i hi]
  refine⟨BOk.empty.cg fun z=>?_,Int.le_refl _,Nat.le_refl _⟩
  unfold sel
  rw [List.take_zero]
  split <;> exact Cg.rfl
 obtain⟨s',⟨h5,h6,h7⟩,e⟩:=loopD_inv (g:=fun (s:Int×List Bg) kn=>crew_split_h_2 N (fun s=>crew_split_h_1 N s.1 s.2) (m:Int) 0 a (a.length:Int) s.1 s.2 (backE ((m:Int),0,a,(a.length:Int)) kn)) (k:=fun s:Int×List Bg=>some (0,s.2)) a.length
  (fun i s=>s.1=(i:Int)/\s.2.length=m/\∀ j,j<m->BOk (sel m (a.take i) j) (nth ((-1:Int),[]) s.2 j)/\0<=(nth ((-1:Int),[]) s.2 j).1/\(nth ((-1:Int),[]) s.2 j).2.length<=i) (N:=N) (s:=((0:Int),ds0))
  (by
   rintro i ⟨_,b⟩ hi ⟨rfl,hb,hj⟩
   simp only at hb hj
   obtain⟨q1,q2,q3⟩:=hmod (nth ((0:Int),(0:Int),(0:Int)) a i).1
   generalize hr:nth ((0:Int),(0:Int),(0:Int)) a i=r at q1 q2 q3
   obtain⟨p,hp⟩:∃ p:Nat,part m r.1=p:=⟨(part m r.1).toNat,by omega⟩
   have hpm:p<m:=by omega
   obtain⟨g1,g2,g3⟩:=hj p hpm
   obtain⟨b',e1,e2,e3⟩:=Add_eq (N:=N) g1 (ky r) r.2.2
   have e4:=Add_clock e1
   refine⟨((i:Int)+1,b.set p b'),⟨by simp,by simp [hb],fun j hjm=>?_⟩,fun kn=>?_⟩
   ·simp only
    rw [nth_set (by omega)]
    have hsum:∀ z:Key,amt (a.take (i+1)) z=amt (a.take i) z+if ky r=z then r.2.2 else 0:=fun z=>by
     rw [take_nth (z:=((0:Int),(0:Int),(0:Int))) hi,amt_append,hr]
     simp only [amt,zAm]
    by_cases q:p=j
    ·subst q
     rw [zI rfl]
     refine⟨e2.cg fun z=>.of_eq ?_,by omega,by omega⟩
     unfold sel
     rw [hsum]
     have hpe:part m (ky r).1=(p:Int):=hp
     by_cases hk:z=ky r
     ·subst hk
      simp only [hpe,if_true]
     ·have hk':¬ ky r=z:=fun h=>hk h.symm
      simp only [hk,hk',if_false,zAm]
    ·rw [zO q]
     obtain⟨g4,g5,g6⟩:=hj j hjm
     refine⟨g4.cg fun z=>.of_eq ?_,g5,by omega⟩
     unfold sel
     rw [hsum]
     by_cases hk:ky r=z
     ·subst hk
      have:part m (ky r).1≠(j:Int):=fun h=>q (by have h2:part m r.1=(j:Int):=h;omega)
      rw [zO this,zO this]
     ·rw [zO hk,zAm]
   ·have e1':D_bags_Bag_Add_h N ((r.1,r.2.1),r.2.2,nth ((0:Int),[]) b p)=some b':=by rw [hz b p (by omega)];exact e1
    have hpos:decide (0<=(nth ((0:Int),([]:List (Int×(Int×Int)×Int))) b p).1)=true:=d_true (by rw [hz b p (by omega)];exact g2)
    simp only [crew_split_h_2,lt_d hi,ge0_d,Int.toNat_natCast,Bool.and_self,cond_true,hr]
    rw [show ((m:Int)==0)=false from zAH (by omega),cond_false]
    by_cases hneg:r.1.tmod m<0
    ·rw [zI hneg] at q1
     rw [d_true hneg,cond_true,q1,hp]
     simp only [ge0_d,hb,lt_d hpm,Bool.and_self,cond_true,Int.toNat_natCast,hpos,e1',Option.bind_some,ix1 hi (by omega),backE_eq]
    ·rw [zO hneg] at q1
     rw [d_false hneg,cond_false,q1,hp]
     simp only [ge0_d,hb,lt_d hpm,Bool.and_self,cond_true,Int.toNat_natCast,hpos,e1',Option.bind_some,ix1 hi (by omega),backE_eq])
  (by
   rintro⟨_,b⟩ ⟨rfl,hb,hj⟩ kn
   simp only [crew_split_h_2,lt_self,cond_false,crew_split_h_1])
  (by omega) ⟨rfl,hl,hp0⟩
 rw [zAN] at h7
 exact⟨0,s'.2,e,by rw [h6];rfl,h7⟩
structure SharesOk (n:Int) (a:List Row) (ls:List (List Row)):Prop where
 len:ls.length=n.toNat
 ok:∀ i,i<n.toNat->IsBag (sel n a i) (nth [] ls i)/\(nth [] ls i).length<=128
theorem Shares_eq{N:Nat}(hN:1000<=N)(n:Int)(a:List Row):(n<1\/4<n->D_crew_Shares N (n,a,())=some ([],2,()))/\(1<=n->n<=4->128<a.length->D_crew_Shares N (n,a,())=some ([],1,())) /\
  (1<=n->n<=4->a.length<=128->∃ ls,D_crew_Shares N (n,a,())=some (ls,0,())/\SharesOk n a ls):=by
 have hc:=check_eq (N:=N) (by omega) n a
 refine⟨fun h=>?_,fun h1 h4 hl=>?_,fun h1 h4 hl=>?_⟩
 ·rw [zI h] at hc
  simp only [D_crew_Shares,crew_Shares_3,hc,Option.bind_some];rfl
 ·rw [zO (by omega),zI hl] at hc
  simp only [D_crew_Shares,crew_Shares_3,hc,Option.bind_some];rfl
 rw [zO (by omega),zO (by omega)] at hc
 obtain⟨t,ds,hs,hok⟩:=split_eq hN n a h1 h4 hl
 simp only [D_crew_Shares,crew_Shares_3,hc,hs,Option.bind_some,joinD,loopE]
 rw [show ((0:Int) != 0)=false from rfl,cond_false]
 have hlen:=hok.len
 obtain⟨s',⟨h5,h6,h7,h8⟩,e⟩:=loopD_inv (g:=fun (s:Int×List Bg×List (List Row)) kn=>crew_Shares_2 N (fun s=>crew_Shares_1 N s) t (ds.length:Int) s.1 s.2.1 s.2.2 (backE (t,(ds.length:Int)) kn)) (k:=fun s:Int×List Bg×List (List Row)=>some (s.2.2,0,())) ds.length
  (fun i s=>s.1=(i:Int)/\s.2.1.length=ds.length/\(s.2.2.length=i/\∀ j,j<i->IsBag (sel n a j) (nth [] s.2.2 j)/\(nth [] s.2.2 j).length<=128)/\∀ j,i<=j->nth ((-1:Int),[]) s.2.1 j=nth ((-1:Int),[]) ds j) (N:=N) (s:=((0:Int),ds,[]))
  (by
   rintro i ⟨_,b,l⟩ hi ⟨rfl,hb,⟨hl1,hl2⟩,hj⟩
   simp only at hb hl1 hl2 hj
   have hd:nth ((0:Int),[]) b i=nth ((-1:Int),[]) ds i:=by
    rw [<- hj i (Nat.le_refl _),nth_lt (by omega),nth_lt (by omega)]
   obtain⟨g1,g2,g3⟩:=hok.ok i (by omega)
   obtain⟨out,r1,r2,r3⟩:=Rows_eq (N:=N) g1 (by omega) (by omega)
   refine⟨((i:Int)+1,b.set i ((-1:Int),[]),l ++ [out]),⟨by simp,by simp [hb],⟨by simp [hl1],fun j hj'=>?_⟩,fun j hj'=>?_⟩,fun kn=>?_⟩
   ·simp only
    by_cases q:j<l.length
    ·have:nth [] (l ++ [out]) j=nth [] l j:=by rw [nth_lt (by simp;omega),nth_lt q,List.getElem_append_left q]
     rw [this];exact hl2 j (by omega)
    ·obtain rfl:j=l.length:=by omega
     have:nth [] (l ++ [out]) l.length=out:=by rw [nth_lt (by simp)];simp
     rw [this,hl1];exact⟨r2,by omega⟩
   ·simp only
    rw [nth_set (by omega),zO (by omega)]
    exact hj j (by omega)
   ·have hpos:decide (0<=(nth ((-1:Int),([]:List (Int×(Int×Int)×Int))) ds i).1)=true:=d_true g2
    have hcap:decide ((l.length+([out]:List (List Row)).length)*24<=140737488355328)=true:=d_true (by simp only [zAZ];omega)
    simp only [crew_Shares_2,lt_d hi,ge0_d,Int.toNat_natCast,hb,Bool.and_self,cond_true,hd,hpos,r1,Option.bind_some,hcap,show Nat.ble 1 24=true from rfl,ix1 hi (by omega),backE_eq])
  (by
   rintro⟨_,b,l⟩ ⟨rfl,hb,hj⟩ kn
   simp only [crew_Shares_2,lt_self,cond_false,crew_Shares_1])
  (by omega) ⟨rfl,rfl,⟨rfl,fun j hj=>by omega⟩,fun _ _=>rfl⟩
 refine⟨s'.2.2,e,⟨by omega,fun i hi=>h7.2 i (by omega)⟩⟩
theorem keyed_eq{N:Nat}{l:List Row}(hN:l.length<N)(hl:l.length<=1000)(k:Int):D_keep_keyed N (l,k,())=some (l.filter fun r=>r.1==k):=by
 simp only [D_keep_keyed,keep_keyed_3,joinD,loopE]
 obtain⟨s',⟨h1,h2,h3⟩,e⟩:=loopD_inv (g:=fun (s:Int×List Row) kn=>keep_keyed_2 N (fun s=>keep_keyed_1 N s) k l (l.length:Int) s.1 s.2 (backE (k,l,(l.length:Int)) kn)) (k:=fun s:Int×List Row=>some s.2) l.length
  (fun i s=>s.1=(i:Int)/\s.2=(l.take i).filter (fun r=>r.1==k)/\s.2.length<=i) (N:=N) (s:=((0:Int),[]))
  (by
   rintro i ⟨_,b⟩ hi ⟨rfl,hb,hj⟩
   simp only at hb hj
   have ht:(l.take (i+1)).filter (fun r=>r.1==k)=b++bif (nth ((0:Int),(0:Int),(0:Int)) l i).1==k then [nth ((0:Int),(0:Int),(0:Int)) l i] else []:=by
    rw [take_nth (z:=((0:Int),(0:Int),(0:Int))) hi,List.filter_append,hb,zAV]
    cases (nth ((0:Int),(0:Int),(0:Int)) l i).1==k <;> rfl
   cases q:(nth ((0:Int),(0:Int),(0:Int)) l i).1==k with
   | true=>
    rw [q,cond_true] at ht
    refine⟨((i:Int)+1,b ++ [nth ((0:Int),(0:Int),(0:Int)) l i]),⟨by simp,ht.symm,by simp;omega⟩,fun kn=>?_⟩
    have hcap:∀ r:Row,decide ((b.length+([r]:List Row).length)*24<=140737488355328)=true:=fun r=>d_true (by simp only [zAZ];omega)
    simp only [keep_keyed_2,lt_d hi,ge0_d,Int.toNat_natCast,Bool.and_self,cond_true,q,hcap,show Nat.ble 1 24=true from rfl,ix1 hi (by omega),backE_eq]
   | false=>
    rw [q,cond_false,List.append_nil] at ht
    refine⟨((i:Int)+1,b),⟨by simp,ht.symm,by simp only;omega⟩,fun kn=>?_⟩
    simp only [keep_keyed_2,lt_d hi,ge0_d,Int.toNat_natCast,Bool.and_self,cond_true,q,cond_false,ix1 hi (by omega),backE_eq])
  (by
   rintro⟨_,b⟩ ⟨rfl,hb,hj⟩ kn
   simp only [keep_keyed_2,lt_self,cond_false,keep_keyed_1])
  hN ⟨rfl,by simp,by simp⟩
 rw [zAN] at h2
 rw [<- h2];exact e
end Go.Proofs.Ytcjecibocjbdmaa
