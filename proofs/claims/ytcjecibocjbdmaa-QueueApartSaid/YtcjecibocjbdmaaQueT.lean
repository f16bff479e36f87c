import Derived.Test.YtcjecibocjbdmaaQueS
namespace Go.Proofs.Ytcjecibocjbdmaa
open Go.Abs
abbrev Mv:Type:=Int×Int×Int
abbrev zm:Mv:=(0,0,0)
def oc(lanes room:Int)(ls:List (List Int))(m:Mv):List (List Int)×Int×Int:=
 if m.1≠1/\m.1≠2 then (ls,17,0)
 else if m.2.1<0\/m.2.1>=lanes then (ls,2,0)
 else if m.1=1 then
  if ((nth [] ls m.2.1.toNat).length:Int)=room then (ls,14,0)
  else (ls.set m.2.1.toNat (nth [] ls m.2.1.toNat ++ [m.2.2]),0,0)
 else
  match nth [] ls m.2.1.toNat with
  | []=>(ls,5,0)
  | y :: t=>(ls.set m.2.1.toNat t,0,y)
structure LS where
 ls:List (List Int)
 codes:List Int
 taken:List Int
def stq(lanes room:Int)(s:LS)(m:Mv):LS:=⟨(oc lanes room s.ls m).1,s.codes ++ [(oc lanes room s.ls m).2.1],s.taken ++ [(oc lanes room s.ls m).2.2]⟩
def q0(lanes:Int):LS:=⟨List.replicate lanes.toNat [],[],[]⟩
def runQ(lanes room:Int)(l:List Mv):LS:=l.foldl (stq lanes room) (q0 lanes)
theorem qfo(lanes room:Int)(l:List Mv)(m:Mv):runQ lanes room (l ++ [m])=stq lanes room (runQ lanes room l) m:=by unfold runQ;rw [List.foldl_append];rfl
theorem qca{lanes room:Int}(l:List Mv){i:Nat}(hi:i<l.length):runQ lanes room (l.take (i+1))=stq lanes room (runQ lanes room (l.take i)) (nth zm l i):=by
 rw [zAR hi,qfo,qcf hi]
theorem qpc(lanes room:Int)(ls:List (List Int))(m:Mv):(oc lanes room ls m).1.length=ls.length:=by
 unfold oc
 split
 ·rfl
 split
 ·rfl
 split
 ·split
  ·rfl
  ·simp
 split
 ·rfl
 ·simp
theorem qbD(lanes room:Int)(l:List Mv):(runQ lanes room l).ls.length=lanes.toNat/\(runQ lanes room l).codes.length=l.length/\(runQ lanes room l).taken.length=l.length:=by
 have key:∀ i,i<=l.length->(runQ lanes room (l.take i)).ls.length=lanes.toNat/\(runQ lanes room (l.take i)).codes.length=i/\(runQ lanes room (l.take i)).taken.length=i:=by
  intro i
  induction i with
  | zero=>intro _;simp [runQ,q0]
  | succ i ih=>
   intro hi
   obtain⟨h1,h2,h3⟩:=ih (by omega)
   rw [qca l hi]
   refine⟨by simp only [stq];rw [qpc,h1],by simp only [stq,zR,zx,h2],by simp only [stq,zR,zx,h3]⟩
 have:=key l.length (Nat.le_refl _)
 rwa [zAK] at this
structure RowsR (room:Int) (v:List BR) (ls:List (List Int)):Prop where
 len:v.length=ls.length
 ok:∀ i,i<ls.length->(nth zb v i).1=true/\RepR room (nth zb v i).2 (nth [] ls i)
theorem RowsR.set{room:Int}{v:List BR}{ls:List (List Int)}(h:RowsR room v ls){i:Nat}(hi:i<ls.length){r:Rng}{q:List Int}(hr:RepR room r q):RowsR room (v.set i (true,r)) (ls.set i q):=by
 refine⟨by simp [h.len],fun j hj=>?_⟩
 have hj:j<ls.length:=by simpa using hj
 rw [qbT (by rw [h.len];exact hi),qbT hi]
 by_cases e:i=j
 ·rw [zG e,zG e];exact⟨rfl,hr⟩
 ·rw [zP e,zP e];exact h.ok j hj
theorem set_self{α:Type}{z:α}{xs:List α}{i:Nat}(h:i<xs.length):xs.set i (nth z xs i)=xs:=by
 rw [qcf h];exact List.set_getElem_self h
theorem play9{N:Nat}{lanes room:Int}(hr:room<=16){ls:List (List Int)}{v:List BR}(hv:RowsR room v ls)(hlen:(ls.length:Int)=lanes)(l:List Mv)(L i:Int)(codes taken:List Int)(kd ln x:Int)(hk:kd=1\/kd=2)
  (k:(Int×Nat×Int×Int×List Mv×Int×Int×List BR×List Int×List Int)->Option qi) :
  ∃ v',RowsR room v' (oc lanes room ls (kd,ln,x)).1/\qbE N k lanes 0 0 0 l L i false v codes taken kd ln x=k (lanes,0,(oc lanes room ls (kd,ln,x)).2.1,(oc lanes room ls (kd,ln,x)).2.2,l,L,i,v',codes,taken):=by
 have hoc:oc lanes room ls (kd,ln,x)=if ln<0\/ln>=lanes then (ls,(2:Int),(0:Int)) else if kd=1 then (if ((nth [] ls ln.toNat).length:Int)=room then (ls,(14:Int),(0:Int)) else (ls.set ln.toNat (nth [] ls ln.toNat ++ [x]),(0:Int),(0:Int))) else
   (match nth [] ls ln.toNat with | []=>(ls,(5:Int),(0:Int)) | y :: t=>(ls.set ln.toNat t,(0:Int),y)):=by
  unfold oc
  rw [zP (by dsimp only;omega)]
 unfold qbE
 simp only [cond_false,joinD]
 by_cases b1:ln<0
 ·refine⟨v,by rw [hoc,zG (.inl b1)];exact hv,?_⟩
  rw [hoc,zG (.inl b1),qag b1,cond_true]
  unfold qbF
  rfl
 rw [qW b1,cond_false]
 by_cases b2:ln>=lanes
 ·refine⟨v,by rw [hoc,zG (.inr b2)];exact hv,?_⟩
  rw [hoc,zG (.inr b2),qag b2]
  unfold qbF
  rfl
 rw [qW b2,hoc,zP (by omega)]
 obtain⟨j,rfl⟩:∃ j:Nat,ln=(j:Int):=⟨ln.toNat,by omega⟩
 have hj:j<ls.length:=by omega
 obtain⟨hfl,hrep⟩:=hv.ok j hj
 unfold qbF
 rw [cond_false,ge0_d,lt_d (show j<v.length by rw [hv.len];exact hj),Bool.and_self,cond_true,Int.toNat_natCast,cond_true]
 have hself:RowsR room (v.set j (true,(nth zb v j).2)) ls:=by
  have:=hv.set hj hrep
  rwa [set_self hj] at this
 rw [show (nth (false,((0:Int),(0:Int),(0:Int),(0:Int),(0:Int),(0:Int),(0:Int),(0:Int),(0:Int),(0:Int),(0:Int),(0:Int),(0:Int),(0:Int),(0:Int),(0:Int)),(0:Int),(0:Int),(0:Int)) v j).1=true from hfl,cond_true,cond_true]
 have hfn:(nth zb v j).2.2.1=(((nth zb v j).2.2.1).toNat:Int):=by have:=hrep.f0;omega
 have hf1:=hrep.f1
 have hle:=hrep.le
 rcases hk with rfl | rfl
 ·rw [zAf,cond_true,zG rfl]
  by_cases hfull:((nth [] ls j).length:Int)=room
  ·rw [zG hfull]
   refine⟨_,hself,?_⟩
   rw [show qo N _=_ from qoi N x (nth zb v j).2 (by rw [hrep.n,hrep.rm,hfull]),Option.bind_some]
   rfl
  ·rw [zP hfull]
   obtain⟨y,e1,e2⟩:=qph N x (nth zb v j).2 _ (nth [] ls j).length hfn (by omega) hrep.n (by omega) (by rw [hrep.n,hrep.rm];exact hfull)
   have hp:=hrep.put (by omega) hr _ hfn x
   rw [hrep.rm] at e2
   refine⟨_,hv.set hj hp,?_⟩
   rw [show qo N _=_ from e1,Option.bind_some,<- e2]
   rfl
 ·rw [show ((2:Int)==1)=false from rfl,cond_false,zP (by decide)]
  cases hq:nth [] ls j with
  | nil=>
   have hn:=hrep.n
   rw [hq] at hn
   refine⟨_,hself,?_⟩
   rw [show qj N _=_ from qnC N (nth zb v j).2 hn,Option.bind_some]
   rfl
  | cons y t=>
   rw [hq] at hrep
   have hn:=hrep.n
   rw [List.length_cons] at hn
   have hle:=hrep.le
   rw [List.length_cons] at hle
   obtain⟨e3,hp⟩:=hrep.take _ hfn
   have e1:=qoX N (nth zb v j).2 _ t.length hfn (by omega) hn (by omega)
   rw [e3] at e1
   have hp2:RepR room ((nth zb v j).2.1,((((nth zb v j).2.2.1.toNat+1) % 16:Nat):Int),(t.length:Int),(nth zb v j).2.2.2.2) t:=by rw [hrep.rm];exact hp
   refine⟨_,hv.set hj hp2,?_⟩
   rw [show qj N _=_ from e1,Option.bind_some]
   rfl
theorem qmy{N:Nat}{lanes room:Int}(hr:room<=16)(l:List Mv)(hl:l.length<=60){i:Nat}(hi:i<l.length){v:List BR}{s:LS}(hv:RowsR room v s.ls)(hlen:(s.ls.length:Int)=lanes)(hc:s.codes.length=i)(ht:s.taken.length=i)
  (k:(Nat×List BR×List Int×List Int)->Option qi) (kn:(Int×Nat×List Mv×Int)×(Int×List BR×List Int×List Int)->Option qi) :
  ∃ v',RowsR room v' (stq lanes room s (nth zm l i)).ls/\qba N k lanes 0 l (l.length:Int) (i:Int) v s.codes s.taken kn =
   kn ((lanes,0,l,(l.length:Int)),(((i+1:Nat):Int),v',(stq lanes room s (nth zm l i)).codes,(stq lanes room s (nth zm l i)).taken)):=by
 have fin:∀ (c x:Int) (v':List BR),qaS N kn lanes 0 c x l (l.length:Int) (i:Int) v' s.codes s.taken=kn ((lanes,0,l,(l.length:Int)),(((i+1:Nat):Int),v',s.codes ++ [c],s.taken ++ [x])):=by
  intro c x v'
  unfold qaS
  rw [qag (show (s.codes.length + [c].length)*8<=140737488355328 by simp only [zx];omega),qag (show (s.taken.length + [x].length)*8<=140737488355328 by simp only [zx];omega),w64 (show -9223372036854775808<=(i:Int)+1 by omega) (show (i:Int)+1<=9223372036854775807 by omega)]
  rfl
 unfold qba
 simp only [lt_d hi,ge0_d,Bool.and_self,cond_true,joinD,Int.toNat_natCast,fin]
 obtain⟨⟨kd,ln,x⟩,ha⟩:∃ a:Mv,nth zm l i=a:=⟨_,rfl⟩
 simp only [ha]
 by_cases h1:kd=1
 ·obtain⟨v',h2,h3⟩:=play9 (N:=N) hr hv hlen l (l.length:Int) (i:Int) s.codes s.taken kd ln x (.inl h1) (fun s'=>qaS N kn s'.1 s'.2.1 s'.2.2.1 s'.2.2.2.1 s'.2.2.2.2.1 s'.2.2.2.2.2.1 s'.2.2.2.2.2.2.1 s'.2.2.2.2.2.2.2.1 s'.2.2.2.2.2.2.2.2.1 s'.2.2.2.2.2.2.2.2.2)
  refine⟨v',h2,?_⟩
  rw [show (kd != 1)=false by subst h1;rfl,cond_false]
  refine h3.trans ?_
  exact fin _ _ _
 ·rw [show (kd != 1)=true from bne_iff_ne.2 h1,cond_true]
  by_cases h2:kd=2
  ·obtain⟨v',h2',h3⟩:=play9 (N:=N) hr hv hlen l (l.length:Int) (i:Int) s.codes s.taken kd ln x (.inr h2) (fun s'=>qaS N kn s'.1 s'.2.1 s'.2.2.1 s'.2.2.2.1 s'.2.2.2.2.1 s'.2.2.2.2.2.1 s'.2.2.2.2.2.2.1 s'.2.2.2.2.2.2.2.1 s'.2.2.2.2.2.2.2.2.1 s'.2.2.2.2.2.2.2.2.2)
   refine⟨v',h2',?_⟩
   rw [show (kd != 2)=false by subst h2;rfl]
   refine h3.trans ?_
   exact fin _ _ _
  ·have hoc:oc lanes room s.ls (kd,ln,x)=(s.ls,17,0):=by unfold oc;rw [zG ⟨h1,h2⟩]
   refine⟨v,by simp only [stq,hoc];exact hv,?_⟩
   rw [show (kd != 2)=true from bne_iff_ne.2 h2]
   unfold qbE
   rw [cond_true]
   simp only [stq,hoc]
   exact fin _ _ _
theorem collect{N:Nat}{v:List BR}{c t:List Int}{o:List (List Int)}{k:List Int->Option qi}:(xs s:List Int)->s.length+xs.length<=1000000 ->
  forD (fun y s kn=>qbH N v c t o s (backE (v,c,t,o) kn) y) k xs s=k (s++xs)
 | [],s,_=>by simp [forD]
 | y :: ys,s,h=>by
  rw [List.length_cons] at h
  have hs:∀ kn,qbH N v c t o s kn y=kn ((v,c,t,o),s ++ [y]):=fun kn=>by
   unfold qbH
   rw [qag (show (s.length + [y].length)*8<=140737488355328 by simp only [zx];omega),show Nat.ble 1 8=true from rfl,Bool.and_self,cond_true]
  simp only [forD]
  rw [hs,qbK,collect ys (s ++ [y]) (by simp;omega)]
  simp
theorem play6{N:Nat}(hN:100<=N){room:Int}(hr:room<=16){ls:List (List Int)}(hL:ls.length<=8){v:List BR}(hv:RowsR room v ls)(codes taken:List Int) :
  qbG N 0 v codes taken=some ((codes,(taken,ls)),(0:Int),()):=by
 simp only [qbG,joinD,loopE]
 refine qes (fun s=>∃ (i:Nat) (v':List BR),s=((i:Int),v',ls.take i)/\i<=ls.length/\v'.length=ls.length/\∀ j,i<=j->j<ls.length->(nth zb v' j).1=true/\RepR room (nth zb v' j).2 (nth [] ls j)) (fun s=>ls.length - s.1.toNat)
  (fun o=>o=some ((codes,(taken,ls)),(0:Int),())) ?_ N _ ⟨0,v,rfl,zAC _,hv.len,fun j _ hj=>hv.ok j hj⟩ (by simp;omega)
 rintro s ⟨i,v',rfl,hi,hl,hok⟩ kn hkn
 dsimp only
 unfold qeF
 by_cases hlt:i<ls.length
 ·obtain⟨hfl,hrep⟩:=hok i (Nat.le_refl _) hlt
  obtain⟨x1,x2⟩:=hrep.xs hr
  have hle:=hrep.le
  rw [lt_d (show i<v.length by rw [hv.len];exact hlt),cond_true,ge0_d,lt_d (show i<v'.length by omega),Bool.and_self]
  simp only [joinD,cond_true,Int.toNat_natCast]
  rw [show (nth (false,((0:Int),(0:Int),(0:Int),(0:Int),(0:Int),(0:Int),(0:Int),(0:Int),(0:Int),(0:Int),(0:Int),(0:Int),(0:Int),(0:Int),(0:Int),(0:Int)),(0:Int),(0:Int),(0:Int)) v' i).1=true from hfl,cond_true,
   show qdT _=true from x1,cond_true,show qcK _=_ from x2]
  unfold forE
  rw [collect _ _ (by simp;omega),List.nil_append]
  dsimp only
  unfold qeG
  rw [qag (show ((ls.take i).length + [nth [] ls i].length)*24<=140737488355328 by simp only [zi,zx];omega),show Nat.ble 1 24=true from rfl,Bool.and_self,cond_true]
  dsimp only
  unfold qeH
  rw [w64 (show -9223372036854775808<=(i:Int)+1 by omega) (show (i:Int)+1<=9223372036854775807 by omega)]
  rw [qbK]
  refine hkn _ ⟨i+1,_,by rw [zAR hlt,<- qcf (z:=[]) hlt];rfl,hlt,by simpa using hl,fun j h1 h2=>?_⟩ (by simp only [Int.toNat_natCast];omega)
  rw [qbT (by omega),zP (by omega)]
  exact hok j (by omega) h2
 ·obtain rfl:i=ls.length:=by omega
  rw [show decide ((ls.length:Int)<(v.length:Int))=false from qW (by rw [hv.len];omega),cond_false,zAK]
  rfl
theorem qnW{α:Type}(a b:α){n i:Nat}(hi:i<n):(List.replicate i a++List.replicate (n - i) b).set i a=List.replicate (i+1) a++List.replicate (n - (i+1)) b:=by
 obtain⟨m,hm⟩:∃ m,n - i=m+1:=⟨n - i - 1,by omega⟩
 rw [hm,show n - (i+1)=m by omega,List.replicate_succ,List.set_append_right _ _ (by simp),List.length_replicate,zAl,List.set_cons_zero,List.replicate_succ',zN]
 rfl
theorem qoj{N:Nat}(lanes room:Int)(l:List Mv)(h:lanes<1\/lanes>8\/room<0\/room>16\/l.length>60):qL N (lanes,room,l,())=some (([],([],[])),(1:Int),()):=by
 have e:∀ a b c,qcv N a b c true=some (([],([],[])),(1:Int),()):=fun _ _ _=>rfl
 simp only [qL,qcu,joinD,e]
 by_cases h1:lanes<1
 ·rw [qag h1,cond_true]
 by_cases h2:lanes>8
 ·rw [qW h1,qag h2,cond_true,cond_false]
 by_cases h3:room<0
 ·rw [qW h1,qW h2,qag h3,cond_true,cond_false,cond_false]
 by_cases h4:room>16
 ·rw [qW h1,qW h2,qW h3,qag h4,cond_true,cond_false,cond_false,cond_false]
 rw [qW h1,qW h2,qW h3,qW h4,qag (show (l.length:Int)>60 by omega),cond_false,cond_false,cond_false,cond_false,e]
theorem qnD{N:Nat}(hN:100<=N)(lanes room:Int)(l:List Mv)(h1:1<=lanes)(h2:lanes<=8)(h3:0<=room)(h4:room<=16)(h5:l.length<=60) :
  qL N (lanes,room,l,())=some (((runQ lanes room l).codes,((runQ lanes room l).taken,(runQ lanes room l).ls)),(0:Int),()):=by
 simp only [qL,qcu,joinD]
 rw [qW (show ¬ lanes<1 by omega),qW (show ¬ lanes>8 by omega),qW (show ¬ room<0 by omega),qW (show ¬ room>16 by omega),qW (show ¬ (l.length:Int)>60 by omega),cond_false,cond_false,cond_false,cond_false]
 unfold qcv
 rw [cond_false,qag (show 0<=lanes by omega),qag (Int.le_refl lanes),qag (show lanes*8<=281474976710656 by omega),Bool.and_self,Bool.and_self,cond_true]
 simp only [joinD,loopE,List.length_replicate]
 refine qdc lanes.toNat (fun i=>((i:Int),List.replicate i ((true,zc,0,0,room):BR)++List.replicate (lanes.toNat - i) zb)) (fun i hi kn=>?_) (fun kn=>?_) (by omega)
 ·dsimp only
  unfold qcw
  rw [lt_d hi,cond_true,show qR N room=some (0,0,0,0,0,0,0,0,0,0,0,0,0,0,0,0,0,0,room) from rfl,Option.bind_some,ge0_d,
   lt_d (show i<(List.replicate i ((true,zc,0,0,room):BR)++List.replicate (lanes.toNat - i) zb).length by simp;omega),Bool.and_self,cond_true,w64 (show -9223372036854775808<=(i:Int)+1 by omega) (show (i:Int)+1<=9223372036854775807 by omega),qbK,Int.toNat_natCast]
  rw [show ((List.replicate i ((true,zc,0,0,room):BR)++List.replicate (lanes.toNat - i) zb).set i _)=_ from qnW ((true,zc,0,0,room):BR) zb hi]
  rfl
 ·dsimp only
  unfold qcw
  rw [qfI,cond_false,zAl]
  have hv0:RowsR room (List.replicate lanes.toNat ((true,zc,0,0,room):BR)++List.replicate 0 zb) (q0 lanes).ls:=by
   refine⟨by simp [q0],fun i hi=>?_⟩
   have hi:i<lanes.toNat:=by simpa [q0] using hi
   have e1:nth zb (List.replicate lanes.toNat ((true,zc,0,0,room):BR)++List.replicate 0 zb) i=(true,zc,0,0,room):=by
    rw [qcf (by simp;omega)];simp [List.getElem_append,hi]
   have e2:nth ([]:List Int) (q0 lanes).ls i = []:=by
    rw [qcf (by simp [q0];omega)];simp [q0]
   rw [e1,e2]
   exact⟨rfl,by dsimp only;omega,by dsimp only;omega,rfl,rfl,by simp;omega,fun i hi=>by simp at hi⟩
  generalize List.replicate lanes.toNat ((true,zc,0,0,room):BR)++List.replicate 0 zb=v0 at hv0 ⊢
  show qcx N lanes l 0 v0=_
  simp only [qcx,joinD,loopE]
  refine qes (fun s=>∃ (i:Nat) (v:List BR),s=((i:Int),v,(runQ lanes room (l.take i)).codes,(runQ lanes room (l.take i)).taken)/\i<=l.length/\RowsR room v (runQ lanes room (l.take i)).ls) (fun s=>l.length - s.1.toNat)
   (fun o=>o=some (((runQ lanes room l).codes,((runQ lanes room l).taken,(runQ lanes room l).ls)),(0:Int),())) ?_ N _ ⟨0,v0,rfl,zAC _,hv0⟩ (by simp;omega)
  rintro s ⟨i,v,rfl,hi,hv⟩ kn hkn
  obtain⟨g1,g2,g3⟩:=qbD lanes room (l.take i)
  rw [zi,zAz hi] at g2 g3
  dsimp only
  by_cases hlt:i<l.length
  ·have hln:((runQ lanes room (l.take i)).ls.length:Int)=lanes:=by omega
   obtain⟨v',e1,e2⟩:=qmy (N:=N) (s:=runQ lanes room (l.take i)) h4 l h5 hlt hv hln g2 g3 (fun s=>qbG N s.1 s.2.1 s.2.2.1 s.2.2.2) (backE (lanes,0,l,(l.length:Int)) kn)
   rw [e2,qbK]
   exact hkn _ ⟨i+1,v',by rw [qca l hlt],hlt,by rw [qca l hlt];exact e1⟩ (by simp only [Int.toNat_natCast];omega)
  ·obtain rfl:i=l.length:=by omega
   rw [zAK] at hv g1 ⊢
   unfold qba
   rw [qfI,cond_false]
   exact play6 hN h4 (by omega) hv _ _
end Go.Proofs.Ytcjecibocjbdmaa
