import Derived.Test.YtcjecibocjbdmaaWirS
namespace Go.Proofs.Ytcjecibocjbdmaa
open Go.Abs Go.Bag Go.His Go.Wir
def unz(x:Int):Int:=ixor .i64 (IntKind.i64.wrap (ishr .u64 x 1)) (IntKind.i64.wrap (0 - (IntKind.i64.wrap (iand .u64 x 1))))
def nxt7(x:Int)(i:Nat)(c:Int):Int:=ior .u64 x (ishl .u64 (IntKind.u64.wrap (iand .u8 c 127)) (7*(i:Int)))
def rdN(bs:List Int):Nat->Nat->Int->Option (Int×List Int)
 | 0,_,_=>none
 | k+1,i,x=>if i<bs.length then (if nth 0 bs i<128 then some (unz (nxt7 x i (nth 0 bs i)),bs.drop (i+1)) else rdN bs k (i+1) (nxt7 x i (nth 0 bs i))) else none
def numD(bs:List Int):Option (Int×List Int):=rdN bs 10 0 0
def toX{α:Type}:Option α->α ⊕ Unit
 | some a=>.inl a
 | none=>.inr ()
theorem unX_toX{X Y:Type}{D:X->Option (Y ⊕ Unit)}{x:X}{o:Option Y}(h:D x=some (toX o)):unX D x=o:=by
 unfold unX
 rw [h]
 cases o <;> rfl
theorem Xnum_eq{N:Nat}(hN:100<=N)(bs:List Int):X_wire_reader_num_h N bs=some (toX (numD bs)):=by
 have key:∀ (k i:Nat) (x:Int) (M:Nat),i+k=10->k<M->loopD (fun (s:Int×Int) kn=>wire_reader_num_h_2 N (fun _=>wire_reader_num_h_1 N) 0 bs s.1 s.2 (backE ((0:Int),bs) kn)) M (x,(i:Int))=some (toX (rdN bs k i x)):=by
  intro k
  induction k with
  | zero=>
   intro i x M hi hM
   obtain⟨M,rfl⟩:∃ m,M=m+1:=⟨M - 1,by omega⟩
   rw [loopD_s]
   simp only [wire_reader_num_h_2,wire_reader_num_h_1,rdN]
   rw [d_false (show ¬ (i:Int)<10 by omega)]
   cases decide ((i:Int)<(bs.length:Int)) <;> rfl
  | succ k ih=>
   intro i x M hi hM
   obtain⟨M,rfl⟩:∃ m,M=m+1:=⟨M - 1,by omega⟩
   rw [loopD_s]
   simp only [wire_reader_num_h_2,wire_reader_num_h_1,rdN]
   by_cases hl:i<bs.length
   ·have w7:IntKind.i64.wrap ((7:Int)*(i:Int))=7*(i:Int):=w64 (by omega) (by omega)
    have w1:IntKind.i64.wrap ((i:Int)+1)=((i+1:Nat):Int):=by rw [w64 (by omega) (by omega)];omega
    rw [lt_d hl,d_true (show (i:Int)<10 by omega),ge0_d,w7,w1,d_false (show ¬ 7*(i:Int)<0 by omega),zH hl]
    simp only [Bool.and_self,cond_true,cond_false,Int.toNat_natCast]
    by_cases hc:nth 0 bs i<128
    ·rw [d_true hc,cond_true,zH hc,ge0_d,d_true (show ((i+1:Nat):Int)<=(bs.length:Int) by omega),d_true (Int.le_refl _)]
     simp only [Bool.and_self,cond_true,show decide ((1:Int)<0)=false from rfl,cond_false,zAI]
     rfl
    ·rw [d_false hc,cond_false,zK hc,backE_eq]
     exact ih (i+1) _ M (by omega) (by omega)
   ·rw [d_false (show ¬ (i:Int)<(bs.length:Int) by omega),cond_false,zK hl]
    rfl
 exact key 10 0 0 N rfl (by omega)
theorem Dnum_eq{N:Nat}(hN:100<=N)(bs:List Int):D_wire_reader_num_h N bs=numD bs:=unX_toX (Xnum_eq hN bs)
def sizeD(most:Int)(bs:List Int):Option (Int×List Int):=(numD bs).bind fun p=>if p.1<0\/p.1>most then none else some p
theorem Xsize_eq{N:Nat}(hN:100<=N)(most:Int)(bs:List Int):X_wire_reader_size_h N (most,bs)=some (toX (sizeD most bs)):=by
 simp only [X_wire_reader_size_h,wire_reader_size_h_1,Xnum_eq hN,Dnum_eq hN,Option.bind_some,sizeD]
 cases h:numD bs with
 | none=>rfl
 | some p=>
  simp only [toX,caseD,Option.bind_some]
  by_cases h1:p.1<0
  ·rw [d_true h1,zH (.inl h1)];rfl
  ·rw [d_false h1,cond_false]
   by_cases h2:p.1>most
   ·rw [d_true h2,zH (.inr h2)];rfl
   ·rw [d_false h2,zK (by omega)];rfl
theorem Dsize_eq{N:Nat}(hN:100<=N)(most:Int)(bs:List Int):D_wire_reader_size_h N (most,bs)=sizeD most bs:=unX_toX (Xsize_eq hN most bs)
theorem sizeD_ok{most n:Int}{bs r:List Int}(h:sizeD most bs=some (n,r)):0<=n/\n<=most:=by
 obtain⟨p,-,h2⟩:=zQ.1 h
 split at h2
 ·cases h2
 ·cases h2;simp only at *;omega
def many{α:Type}(f:List Int->Option (α×List Int)):Nat->List Int->Option (List α×List Int)
 | 0,bs=>some ([],bs)
 | n+1,bs=>(f bs).bind fun p=>(many f n p.2).bind fun q=>some (p.1 :: q.1,q.2)
theorem many_len{α:Type}{f:List Int->Option (α×List Int)}:∀ (n:Nat) {bs:List Int} {l:List α} {r:List Int},many f n bs=some (l,r)->l.length=n
 | 0,_,_,_,h=>by cases h;rfl
 | n+1,_,_,_,h=>by
  obtain⟨p,-,h⟩:=zQ.1 h
  obtain⟨q,hq,h⟩:=zQ.1 h
  cases h
  rw [List.length_cons,many_len n (l:=q.1) (r:=q.2) hq]
theorem loopMany{R α:Type}{f:List Int->Option (α×List Int)}{bad:Option R}{n:Nat}{g:Int×List Int×List α->(Int×List Int×List α->Option R)->Option R}{k:List Int->List α->Option R}
  (hs:∀ (i:Nat) (bs:List Int) (acc:List α),i<n->acc.length=i->∀ kn,g ((i:Int),bs,acc) kn=match f bs with | none=>bad | some p=>kn (((i+1:Nat):Int),p.2,acc ++ [p.1]))
  (he:∀ (bs:List Int) (acc:List α),acc.length=n->∀ kn,g ((n:Int),bs,acc) kn=k bs acc) :
  ∀ (m i:Nat) (bs:List Int) (acc:List α) (N:Nat),i+m=n->m<N->acc.length=i->loopD g N ((i:Int),bs,acc)=match many f m bs with | none=>bad | some q=>k q.2 (acc++q.1)
 | 0,i,bs,acc,N,hi,hN,ha=>by
  obtain⟨N,rfl⟩:∃ m,N=m+1:=⟨N - 1,by omega⟩
  obtain rfl:i=n:=by omega
  rw [loopD_s,he bs acc ha]
  simp only [many,List.append_nil]
 | m+1,i,bs,acc,N,hi,hN,ha=>by
  obtain⟨N,rfl⟩:∃ m,N=m+1:=⟨N - 1,by omega⟩
  rw [loopD_s,hs i bs acc (by omega) ha]
  cases h:f bs with
  | none=>simp only [many,h,Option.bind_none]
  | some p=>
   simp only [many,h,Option.bind_some]
   rw [loopMany hs he m (i+1) p.2 (acc ++ [p.1]) N (by omega) (by omega) (by simp [ha])]
   cases many f m p.2 with
   | none=>rfl
   | some q=>simp only [Option.bind_some,zN,zAs]
def rowD(bs:List Int):Option (Row×List Int):=(numD bs).bind fun a=>(numD a.2).bind fun b=>(numD b.2).bind fun c=>some ((a.1,b.1,c.1),c.2)
def rowsD(bs:List Int):Option (List Row×List Int):=(sizeD 128 bs).bind fun m=>many rowD m.1.toNat m.2
def timeD(bs:List Int):Option (List Int×List Int):=(sizeD 4 bs).bind fun n=>many (sizeD 1048576) n.1.toNat n.2
def diffD(bs:List Int):Option (Df×List Int):=(timeD bs).bind fun t=>(rowsD t.2).bind fun r=>some ((t.1,r.1),r.2)
def histD(bs:List Int):Option (List Df×List Int):=(sizeD 64 bs).bind fun n=>many diffD n.1.toNat n.2
theorem Xhist_eq{N:Nat}(hN:1000<=N)(bs:List Int)(ok:Bool):X_wire_hist N (bs,ok)=some (match histD bs with | some h=>.inl (h.1,true,()) | none=>.inr ()):=by
 have hX:=fun most b=>Xsize_eq (N:=N) (by omega) most b
 have hD:=fun most b=>Dsize_eq (N:=N) (by omega) most b
 have nX:=fun b=>Xnum_eq (N:=N) (by omega) b
 have nD:=fun b=>Dnum_eq (N:=N) (by omega) b
 simp only [X_wire_hist,wire_hist_8,joinD,loopE,hX,hD,Option.bind_some,histD]
 cases hs:sizeD 64 bs with
 | none=>rfl
 | some n=>
  obtain⟨n,r0⟩:=n
  obtain⟨n1,n2⟩:=sizeD_ok hs
  obtain⟨n,rfl⟩:=zAo n1
  simp only [toX,caseD,Option.bind_some,Int.toNat_natCast]
  refine (loopMany (f:=diffD) (bad:=some (.inr ())) (n:=n) (k:=fun _ acc=>some (.inl (acc,true,()))) (g:=fun (s:Int×List Int×List Df) kn=>wire_hist_7 N (fun s=>wire_hist_1 N s.2.2) (n:Int) ok s.1 s.2.1 s.2.2 (backE ((n:Int),ok) kn)) ?_ ?_ n 0 r0 [] N (by omega) (by omega) rfl).trans ?_
  ·intro i b acc hi ha kn
   simp only [wire_hist_7,lt_d hi,cond_true,joinD,hX,hD,Option.bind_some,loopE,diffD,timeD]
   cases ht:sizeD 4 b with
   | none=>rfl
   | some t=>
    obtain⟨t,r1⟩:=t
    obtain⟨t1,t2⟩:=sizeD_ok ht
    obtain⟨t,rfl⟩:=zAo t1
    simp only [toX,caseD,Option.bind_some,Int.toNat_natCast]
    refine (loopMany (f:=sizeD 1048576) (bad:=some (.inr ())) (n:=t) (k:=fun b' tm=>wire_hist_5 N (fun s=>wire_hist_2 N (backE ((n:Int),ok) kn) s.1 s.2.1 s.2.2.1 s.2.2.2.1 s.2.2.2.2.1) (n:Int) (i:Int) b' ok acc tm)
     (g:=fun (s:Int×List Int×List Int) kn'=>wire_hist_6 N (fun s=>wire_hist_5 N (fun s=>wire_hist_2 N (backE ((n:Int),ok) kn) s.1 s.2.1 s.2.2.1 s.2.2.2.1 s.2.2.2.2.1) s.1 s.2.1 s.2.2.1 s.2.2.2.1 s.2.2.2.2.1 s.2.2.2.2.2) (n:Int) (i:Int) (t:Int) ok acc s.1 s.2.1 s.2.2 (backE ((n:Int),(i:Int),(t:Int),ok,acc) kn')) ?_ ?_ t 0 r1 [] N (by omega) (by omega) rfl).trans ?_
    ·intro j b' tm hj htm kn'
     simp only [wire_hist_6,lt_d hj,cond_true,hX,hD,Option.bind_some]
     cases hz:sizeD 1048576 b' with
     | none=>rfl
     | some z=>
      simp only [toX,caseD,Option.bind_some]
      rw [d_true (show (tm.length+([z.1]:List Int).length)*8<=140737488355328 by simp only [zt];omega),show Nat.ble 1 8=true from rfl,Bool.and_self,cond_true,w64 (by omega) (by omega),backE_eq]
      rfl
    ·intro b' tm htm kn'
     simp only [wire_hist_6,lt_self,cond_false]
    ·cases hm:many (sizeD 1048576) t r1 with
     | none=>rfl
     | some tm=>
      obtain⟨tm,r2⟩:=tm
      have htm:=many_len _ hm
      simp only [List.nil_append,Option.bind_some,wire_hist_5,joinD,hX,hD,loopE,rowsD]
      cases hr:sizeD 128 r2 with
      | none=>rfl
      | some m=>
       obtain⟨m,r3⟩:=m
       obtain⟨m1,m2⟩:=sizeD_ok hr
       obtain⟨m,rfl⟩:=zAo m1
       simp only [toX,caseD,Option.bind_some,Int.toNat_natCast]
       refine (loopMany (f:=rowD) (bad:=some (.inr ())) (n:=m) (k:=fun b' rs=>kn (((i+1:Nat):Int),b',acc ++ [(tm,rs)]))
        (g:=fun (s:Int×List Int×List Row) kn'=>wire_hist_4 N (fun s=>wire_hist_3 N (fun s=>wire_hist_2 N (backE ((n:Int),ok) kn) s.1 s.2.1 s.2.2.1 s.2.2.2.1 s.2.2.2.2.1) s.1 s.2.1 s.2.2.1 s.2.2.2.1 s.2.2.2.2.1 s.2.2.2.2.2.1 s.2.2.2.2.2.2) (n:Int) (i:Int) (m:Int) ok acc tm s.1 s.2.1 s.2.2 (backE ((n:Int),(i:Int),(m:Int),ok,acc,tm) kn')) ?_ ?_ m 0 r3 [] N (by omega) (by omega) rfl).trans ?_
       ·intro j b' rs hj hrs kn'
        simp only [wire_hist_4,lt_d hj,cond_true,nX,nD,Option.bind_some,rowD]
        cases h1:numD b' with
        | none=>rfl
        | some a=>
         simp only [toX,caseD,Option.bind_some,nX,nD]
         cases h2:numD a.2 with
         | none=>rfl
         | some c=>
          simp only [toX,caseD,Option.bind_some,nX,nD,h2]
          cases h3:numD c.2 with
          | none=>rfl
          | some e=>
           simp only [toX,caseD,Option.bind_some,nX,nD,h2,h3]
           rw [d_true (show (rs.length+([(a.1,(c.1,e.1))]:List Row).length)*24<=140737488355328 by simp only [zt];omega),show Nat.ble 1 24=true from rfl,Bool.and_self,cond_true,w64 (by omega) (by omega),backE_eq]
           rfl
       ·intro b' rs hrs kn'
        simp only [wire_hist_4,lt_self,cond_false,wire_hist_3,wire_hist_2]
        rw [d_true (show (acc.length+([(tm,rs)]:List Df).length)*48<=140737488355328 by simp only [zt];omega),show Nat.ble 1 48=true from rfl,Bool.and_self,cond_true,w64 (by omega) (by omega),backE_eq]
        rfl
       ·cases many rowD m r3 with
        | none=>rfl
        | some q=>rfl
  ·intro b acc ha kn
   simp only [wire_hist_7,lt_self,cond_false,wire_hist_1]
  ·cases many diffD n r0 with
   | none=>rfl
   | some q=>rfl
theorem hh_eq{N:Nat}(hN:1000<=N)(bs:List Int):D_hh N bs=some (match histD bs with | some h=>(h.1,true) | none=>([],false)):=by
 unfold D_hh
 rw [Xhist_eq hN]
 cases histD bs <;> rfl
end Go.Proofs.Ytcjecibocjbdmaa
