import Derived.Test.YtcjecibocjbdmaaDifA
import Derived.Test.YtcjecibocjbdmaaTimesP
namespace Go.Proofs.Ytcjecibocjbdmaa
open Go.Abs
def tok(t:List Int):Bool:=decide (1<=t.length)&&decide (t.length<=4)&&t.all fun x=>decide (0<=x)&&decide (x<=1048576)
theorem tok_len{t:List Int}(h:tok t=true):1<=t.length/\t.length<=4:=by
 simp only [tok,zB,zK] at h;exact h.1
theorem Check_eq{N:Nat}(hN:1000<=N)(t:List Int):∃ e,D_times_Check N (t,())=some (e,())/\(e=0↔tok t=true):=by
 simp only [D_times_Check,times_Check_3]
 by_cases h0:t.length=0
 ·refine⟨1,?_,by simp [tok,h0]⟩
  rw [show ((t.length:Int)==0)=true from by rw [beq_iff_eq];omega,cond_true]
 rw [show ((t.length:Int)==0)=false from zAN (by omega),cond_false]
 by_cases h4:4<t.length
 ·refine⟨1,?_,by simp [tok];omega⟩
  rw [d_true (by omega),cond_true]
 rw [d_false (by omega),cond_false]
 simp only [joinD,loopE]
 have hbody:∀ i,i<t.length->∀ kn,times_Check_2 N (fun _=>times_Check_1 N) t (t.length:Int) (i:Int) (backE (t,(t.length:Int)) kn)=if 0<=nth 0 t i/\nth 0 t i<=1048576 then kn ((i:Int)+1) else some (2,()):=fun i hi kn=>by
  simp only [times_Check_2,lt_d hi,ge0_d,Bool.and_self,cond_true,Int.toNat_natCast,backE_eq,ix1 hi (by omega)]
  by_cases q1:nth 0 t i<0
  ·rw [d_true q1,cond_true,zJ (by omega)]
  ·rw [d_false q1,cond_false]
   by_cases q2:nth 0 t i>1048576
   ·rw [d_true q2,cond_true,zJ (by omega)]
   ·rw [d_false q2,cond_false,zG (by omega)]
 have hall:(t.all fun x=>decide (0<=x)&&decide (x<=1048576))=true↔∀ i,i<t.length->0<=nth 0 t i/\nth 0 t i<=1048576:=by
  rw [za]
  constructor
  ·intro h i hi
   simpa using h _ (nth_mem (z:=0) hi)
  ·intro h x hx
   obtain⟨i,hi,rfl⟩:=mem_nth (z:=(0:Int)) hx
   simpa using h i hi
 have htok:tok t=true↔∀ i,i<t.length->0<=nth 0 t i/\nth 0 t i<=1048576:=by
  rw [<- hall];simp [tok];omega
 by_cases hg:∀ i,i<t.length->0<=nth 0 t i/\nth 0 t i<=1048576
 ·refine⟨0,loopD_pass (n:=t.length) (by omega) (fun i hi kn=>by rw [hbody i hi,zG (hg i hi)]) (fun kn=>by simp only [times_Check_2,lt_self,cond_false,times_Check_1]) (by omega),by rw [htok];exact⟨fun _=>hg,fun _=>rfl⟩⟩
 ·refine⟨2,loopD_hit (n:=t.length) (by omega) (fun i=>¬ (0<=nth 0 t i/\nth 0 t i<=1048576)) (fun i hi hb kn=>by rw [hbody i hi,zJ hb]) (fun i hi hb kn=>by rw [hbody i hi,zG (Classical.not_not.1 hb)]) (by omega) ?_,by rw [htok];exact⟨fun h=>absurd h (by decide),fun h=>absurd h hg⟩⟩
  exact Classical.byContradiction fun hn=>hg fun i hi=>Classical.byContradiction fun hb=>hn ⟨i,hi,hb⟩
structure TL (xs:List (List Int)):Prop where
 len:xs.length<=64
 tok:∀ t∈xs,tok t=true
 one:∀ t∈xs,t.length=(nth [] xs 0).length
theorem TL.eqL{xs:List (List Int)}(h:TL xs){a b:List Int}(ha:a∈xs)(hb:b∈xs):a.length=b.length:=by rw [h.one a ha,h.one b hb]
theorem List_eq{N:Nat}(hN:1000<=N)(xs:List (List Int)):∃ e,D_times_List N (xs,())=some (e,())/\(e=0↔TL xs):=by
 simp only [D_times_List,times_List_5]
 by_cases hl:64<xs.length
 ·exact⟨1,by rw [d_true (by omega),cond_true],fun h=>absurd h (by decide),fun h=>absurd h.len (by omega)⟩
 rw [d_false (by omega),cond_false]
 simp only [joinD,loopE]
 by_cases hg:∀ t∈xs,tok t=true
 case neg=>
  obtain⟨e,he,key⟩:∃ e,e≠0/\loopD (fun (s:Int) kn=>times_List_4 N (fun s=>times_List_3 N s) xs xs (xs.length:Int) s (backE (xs,xs,(xs.length:Int)) kn)) N 0=some (e,()):=by
   have hex:∃ i,i<xs.length/\¬ tok (nth [] xs i)=true:=Classical.byContradiction fun hn=>hg fun t ht=>Classical.byContradiction fun hb=>by
    obtain⟨i,hi,rfl⟩:=mem_nth (z:=([]:List Int)) ht
    exact hn ⟨i,hi,hb⟩
   have hfirst:∃ i,i<xs.length/\¬ tok (nth [] xs i)=true/\∀ j,j<i->tok (nth [] xs j)=true:=by
    have key:∀ n,(∃ i,i<n/\i<xs.length/\¬ tok (nth [] xs i)=true)->∃ i,i<xs.length/\¬ tok (nth [] xs i)=true/\∀ j,j<i->tok (nth [] xs j)=true:=by
     intro n
     induction n with
     | zero=>rintro⟨i,h,-⟩;exact absurd h (zBX _)
     | succ n ih=>
      rintro⟨i,h1,h2,h3⟩
      by_cases h:∃ i,i<n/\i<xs.length/\¬ tok (nth [] xs i)=true
      ·exact ih h
      ·have:i=n:=Classical.byContradiction fun hne=>h ⟨i,by omega,h2,h3⟩
       subst this
       exact⟨i,h2,h3,fun j hj=>Classical.byContradiction fun hb=>h ⟨j,hj,by omega,hb⟩⟩
    obtain⟨i,hi,hb⟩:=hex
    exact key _ ⟨i,hi,hi,hb⟩
   obtain⟨i0,h1,h2,h3⟩:=hfirst
   obtain⟨e,e1,e2⟩:=Check_eq hN (nth [] xs i0)
   have he:e≠0:=fun h=>h2 (e2.1 h)
   refine⟨e,he,loopD_const (fun s=>∃ i:Nat,s=(i:Int)/\i<=i0) (fun s=>xs.length - s.toNat) _ ?_ N _ ⟨0,rfl,zw _⟩ (by simp;omega)⟩
   rintro s ⟨i,rfl,hi⟩ kn hkn
   have hix:i<xs.length:=by omega
   simp only [times_List_4,lt_d hix,ge0_d,Bool.and_self,cond_true,Int.toNat_natCast]
   by_cases q:i=i0
   ·subst q
    rw [e1,Option.bind_some,show (e != 0)=true from bne_iff_ne.2 he,cond_true]
   ·obtain⟨f,f1,f2⟩:=Check_eq hN (nth [] xs i)
    obtain rfl:=f2.2 (h3 i (by omega))
    rw [f1,Option.bind_some]
    simp only [bne_self_eq_false,cond_false,backE_eq,ix1 hix (by omega)]
    exact hkn _ ⟨i+1,rfl,by omega⟩ (by simp;omega)
  exact⟨e,key,fun h=>absurd h he,fun h=>absurd h.tok hg⟩
 have hpass:loopD (fun (s:Int) kn=>times_List_4 N (fun s=>times_List_3 N s) xs xs (xs.length:Int) s (backE (xs,xs,(xs.length:Int)) kn)) N 0=times_List_3 N xs:=by
  refine loopD_pass (n:=xs.length) (by omega) (fun i hi kn=>?_) (fun kn=>by simp only [times_List_4,lt_self,cond_false]) (by omega)
  obtain⟨f,f1,f2⟩:=Check_eq hN (nth [] xs i)
  obtain rfl:=f2.2 (hg _ (nth_mem hi))
  simp only [times_List_4,lt_d hi,ge0_d,Bool.and_self,cond_true,Int.toNat_natCast,f1,Option.bind_some,bne_self_eq_false,cond_false,backE_eq,ix1 hi (by omega)]
 rw [hpass]
 simp only [times_List_3,joinD,loopE]
 have hbody:∀ i,i<xs.length->∀ kn,times_List_2 N (fun _=>times_List_1 N) xs xs (xs.length:Int) (i:Int) (backE (xs,xs,(xs.length:Int)) kn)=if (nth [] xs i).length=(nth [] xs 0).length then kn ((i:Int)+1) else some (3,()):=fun i hi kn=>by
  have h0:decide ((0:Int)<(xs.length:Int))=true:=d_true (by omega)
  simp only [times_List_2,lt_d hi,ge0_d,Bool.and_self,cond_true,Int.toNat_natCast,h0,show decide ((0:Int)<=0)=true from rfl,Int.toNat_zero,backE_eq,ix1 hi (by omega)]
  by_cases q:(nth [] xs i).length=(nth [] xs 0).length
  ·rw [q,bne_self_eq_false,cond_false,zG rfl]
  ·rw [show (((nth [] xs i).length:Int) != ((nth [] xs 0).length:Int))=true from bne_iff_ne.2 (by omega),cond_true,zJ q]
 by_cases ho:∀ t∈xs,t.length=(nth [] xs 0).length
 ·exact⟨0,loopD_pass (n:=xs.length) (by omega) (fun i hi kn=>by rw [hbody i hi,zG (ho _ (nth_mem hi))]) (fun kn=>by simp only [times_List_2,lt_self,cond_false,times_List_1]) (by omega),fun _=>⟨by omega,hg,ho⟩,fun _=>rfl⟩
 ·refine⟨3,loopD_hit (n:=xs.length) (by omega) (fun i=>¬ (nth [] xs i).length=(nth [] xs 0).length) (fun i hi hb kn=>by rw [hbody i hi,zJ hb]) (fun i hi hb kn=>by rw [hbody i hi,zG (Classical.not_not.1 hb)]) (by omega) ?_,fun h=>absurd h (by decide),fun h=>absurd h.one ho⟩
  exact Classical.byContradiction fun hn=>ho fun t ht=>Classical.byContradiction fun hb=>by
   obtain⟨i,hi,rfl⟩:=mem_nth (z:=([]:List Int)) ht
   exact hn ⟨i,hi,hb⟩
end Go.Proofs.Ytcjecibocjbdmaa
