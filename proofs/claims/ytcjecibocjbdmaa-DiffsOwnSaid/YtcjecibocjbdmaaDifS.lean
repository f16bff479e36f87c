import Derived.Test.YtcjecibocjbdmaaTimA
namespace Go.Proofs.Ytcjecibocjbdmaa
open Go.Abs Go.Bag
abbrev Df:=List Int×List Row
abbrev zd:Df:=([],[])
theorem take_nd{h:List Df}{i:Nat}(hi:i<h.length):h.take (i+1)=h.take i ++ [nth zd h i]:=by rw [zBh hi,nth_lt hi]
def cntR(h:List Df):Nat:=(h.map fun d=>d.2.length).sum
theorem cntR_take{h:List Df}{i:Nat}(hi:i<h.length):cntR (h.take (i+1))=cntR (h.take i)+(nth zd h i).2.length:=by
 rw [take_nd hi];unfold cntR;rw [zAf,zBu];simp
structure HOk (h:List Df) (t:List Int):Prop where
 len:h.length<=64
 rows:cntR h<=128
 tt:tok t=true
 tok:∀ d∈h,tok d.1=true
 one:∀ d∈h,d.1.length=t.length
theorem dTimes_eq{N:Nat}{h:List Df}(hN:h.length<N)(hl:h.length<=64):D_diffs_Times N (h,())=some (h.map Prod.fst):=by
 simp only [D_diffs_Times,diffs_Times_3,joinD,loopE]
 refine loopD_path (N:=N) h.length (fun i=>((i:Int),(h.take i).map Prod.fst)) (fun i hi kn=>?_) (fun kn=>?_) hN
 ·simp only [diffs_Times_2,lt_d hi,ge0_d,Bool.and_self,cond_true,Int.toNat_natCast,backE_eq,ix1 hi (show h.length<=4611686018427387904 by omega)]
  rw [d_true (by simp only [zAO,zAG,zAn];omega),show Nat.ble 1 24=true from rfl,Bool.and_self,cond_true,take_nd hi,zAf]
  rfl
 ·simp only [diffs_Times_2,lt_self,cond_false,diffs_Times_1,zAR]
theorem dCheck_iff{N:Nat}(hN:1000<=N){h:List Df}(hl:h.length<N)(hl2:h.length<=4611686018427387904):∃ e,D_diffs_Check N (h,())=some (e,())/\(e=0↔h.length<=64/\cntR h<=128/\TL (h.map Prod.fst)):=by
 simp only [D_diffs_Check,diffs_Check_3,joinD,loopE]
 have key:∀ k:(List Df×Int)->Option Rt_diffs_Check,∃ r:Int,0<=r/\r<=129/\(r<=128↔cntR h<=128)/\loopD (fun (s:Int×Int) kn=>diffs_Check_2 N k h h (h.length:Int) s.1 s.2 (backE (h,h,(h.length:Int)) kn)) N (0,0)=k (h,r):=fun k=>by
  obtain⟨s,⟨r,rfl,h0,h1,h2,h3⟩,hs⟩:=loopD_inv (N:=N) (g:=fun (s:Int×Int) kn=>diffs_Check_2 N k h h (h.length:Int) s.1 s.2 (backE (h,h,(h.length:Int)) kn)) (k:=fun s=>k (h,s.1)) h.length
   (fun i s=>∃ r:Int,s=(r,(i:Int))/\0<=r/\r<=129/\(r<=128->(cntR (h.take i):Int)<=r)/\r<=(cntR (h.take i):Int))
   (fun i s hi hI=>by
    obtain⟨r,rfl,h0,h1,h2,h3⟩:=hI
    obtain⟨m,hm,hm0,hm1,hm2,hm3⟩:∃ m:Int,m=(if (129:Int)<((nth zd h i).2.length:Int) then (129:Int) else ((nth zd h i).2.length:Int))/\0<=m/\m<=129/\(m<=128->m=(nth zd h i).2.length)/\m<=(nth zd h i).2.length:=by
     refine⟨_,rfl,?_,?_,?_,?_⟩ <;> split <;> omega
    refine⟨(if 129<r+m then 129 else r+m,((i+1:Nat):Int)),⟨_,rfl,by split <;> omega,by split <;> omega,fun hle=>?_,by rw [cntR_take hi];split <;> omega⟩,fun kn=>?_⟩
    ·have hrm:r+m<=128:=by split at hle <;> omega
     have:=h2 (by omega)
     have:=hm2 (by omega)
     rw [zJ (by omega),cntR_take hi]
     omega
    ·simp only [diffs_Check_2,lt_d hi,ge0_d,Bool.and_self,cond_true,Int.toNat_natCast,backE_eq,ix1 hi hl2]
     rw [<- hm,w64 (show -9223372036854775808<=r+m by omega) (by omega)]
     rfl)
   (fun s hI kn=>by
    obtain⟨r,rfl,_⟩:=hI
    simp only [diffs_Check_2,lt_self,cond_false])
   hl (s:=(0,0)) ⟨0,rfl,by omega,by omega,fun _=>(by rw [List.take_zero];exact Int.le_refl _),(by rw [List.take_zero];exact Int.le_refl _)⟩
  rw [zAR] at h2 h3
  exact⟨r,h0,h1,⟨fun h=>by have:=h2 h;omega,fun h=>by omega⟩,hs⟩
 obtain⟨r,h0,h1,h2,hs⟩:=key (fun s=>diffs_Check_1 N s.1 s.2)
 rw [hs]
 simp only [diffs_Check_1]
 by_cases q:h.length<=64
 case neg=>exact⟨1,by rw [d_true (show (h.length:Int)>64 by omega),cond_true],fun h=>(by cases h),fun h=>absurd h.1 q⟩
 rw [d_false (show ¬ (h.length:Int)>64 by omega),cond_false]
 by_cases q2:r<=128
 case neg=>exact⟨1,by rw [d_true (show r>128 by omega),cond_true],fun h=>(by cases h),fun h=>absurd (h2.2 h.2.1) q2⟩
 rw [d_false (show ¬ r>128 by omega),cond_false]
 obtain⟨e,e1,e2⟩:=List_eq hN (h.map Prod.fst)
 simp only [dTimes_eq hl q,e1,Option.bind_some]
 exact⟨e,rfl,fun h=>⟨q,h2.1 q2,e2.1 h⟩,fun h=>e2.2 h.2.2⟩
end Go.Proofs.Ytcjecibocjbdmaa
