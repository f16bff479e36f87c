import Derived.Test.YtgnnhemoocfclaaDoorGhE
namespace Go.Proofs.YtgnnhemoocfclaaDoor.Gh
open Go.Abs Go.Gr
theorem els_Q{R S:Type}{f:Int->S->(S->Option R)->Option R}{k:S->Option R}{w:Int}(hw:W32 w)(Q:Option R->Prop)(I:List Nat->S->Prop)
  (h2:∀ (dn:List Nat) (i:Nat) (r:List Nat) (s:S),els w=dn++i :: r->I dn s->∀ kn,(∀ s',I (dn ++ [i]) s'->Q (kn s'))->Q (f (i:Int) s kn)) (h3:∀ s,I (els w) s->Q (k s)) {s:S} (h0:I [] s):Q (forD f k (qgd (w,())) s):=by
 rw [qpi hw]
 have key:∀ (r dn:List Nat) (s:S),els w=dn++r->I dn s->Q (forD f k (r.map fun (i:Nat)=>(i:Int)) s):=by
  intro r
  induction r with
  | nil=>
   intro dn s e hI
   rw [List.append_nil] at e
   exact h3 s (e▸hI)
  | cons i r ih=>
   intro dn s e hI
   rw [List.map_cons,qrZ]
   exact h2 dn i r s e hI _ fun s' hs'=>ih (dn ++ [i]) s' (by rw [e,zU];rfl) hs'
 exact key (els w) [] s rfl h0
theorem qmN{w:Int}{dn r:List Nat}{i:Nat}(e:els w=dn++i :: r):i<32/\bt w i=true:=qun.1 (by rw [e];simp)
theorem bt_ex{w:Int}(hw:W32 w)(h:w≠0):∃ b,b<32/\bt w b=true:=by
 by_cases q:∃ b,b<32/\bt w b=true
 ·exact q
 ·refine absurd (qxv hw W32.zero fun i hi=>?_) h
  rw [qfJ]
  exact zAN.2 fun hb=>q ⟨i,hi,hb⟩
section
variable {N : Nat} {ns : List Nd} {es : List Ed} {to : List Int} {E0 : Nat -> Nat -> Prop}
theorem qwp{l:List Nat}{within:Int}(hw:W32 within)(ht:TtOk ns.length E0 to):(m:Int)->W32 m->W32 (l.foldl (fun m j=>ior .u32 m (iand .u32 (nth 0 to j) within)) m) /\
  ∀ b,bt (l.foldl (fun m j=>ior .u32 m (iand .u32 (nth 0 to j) within)) m) b=true↔bt m b=true\/∃ j∈l,bt (nth 0 to j) b=true/\bt within b=true:=by
 induction l with
 | nil=>intro m hm;exact⟨hm,fun b=>by simp⟩
 | cons j l ih=>
  intro m hm
  obtain⟨h1,h2⟩:=ih (ior .u32 m (iand .u32 (nth 0 to j) within)) W32.ior
  refine⟨h1,fun b=>?_⟩
  rw [List.foldl_cons,h2,qsz hm W32.iand,qqI (ht.w j) hw]
  simp only [zw,zB,zf]
  constructor
  ·rintro ((h | h) | ⟨i,hi,h⟩)
   ·exact .inl h
   ·exact .inr ⟨j,.inl rfl,h⟩
   ·exact .inr ⟨i,.inr hi,h⟩
  ·rintro (h | ⟨i,rfl | hi,h⟩)
   ·exact .inl (.inl h)
   ·exact .inl (.inr h)
   ·exact .inr ⟨i,hi,h⟩
def EB(to:List Int)(within:Int)(a b:Nat):Prop:=bt (nth 0 to a) b=true/\bt within b=true
structure BI (n:Nat) (to:List Int) (within:Int) (i:Nat) (s:Int×Int):Prop where
 w1:W32 s.1
 w2:W32 s.2
 sound:∀ b,bt s.1 b=true\/bt s.2 b=true->Pk (EB to within) n i b
 disj:∀ b,bt s.2 b=true->bt s.1 b=false
 closed:∀ a b,bt s.1 a=true->EB to within a b->bt s.1 b=true\/bt s.2 b=true
 base:∀ b,EB to within i b->bt s.1 b=true\/bt s.2 b=true
theorem Pk.last{E:Nat->Nat->Prop}{n i b:Nat}(h:Pk E n i b):∃ a,E a b:=by
 induction h with
 | one h=>exact⟨_,h⟩
 | cons _ _ _ ih=>exact ih
theorem qsE(hN:1000<=N)(hn:ns.length<=12)(ht:TtOk ns.length E0 to){within:Int}(hw:W32 within){i:Nat}(hi:i<ns.length) :
  ∃ all:Int,qav N ((i:Int),within,ns,es,to)=some (all,ns,es,to)/\W32 all/\∀ b,bt all b=true↔Pk (EB to within) ns.length i b:=by
 have hb:∀ {a b},EB to within a b->b<ns.length:=fun h=>((ht.bit _ _).1 h.1).2.1
 simp only [qav,qeK,ge0_d,ht.len,lt_d hi,Bool.and_self,cond_true,joinD,loopE,Int.toNat_natCast]
 obtain⟨s',h1,h2,h3⟩:=qmV (fun (_:Unit) (s:Int×Int) kn=>qbD N (fun _s=>qcO N _s.1 _s.2.1 _s.2.2.1 _s.2.2.2.1) ns es to within s.1 s.2 (backE (ns,es,to,within) kn))
  (fun _ s=>some (s.1,ns,es,to)) (BI ns.length to within i) (fun s=>s.2=0) (fun s=>((List.range 32).filter fun b=>!bt s.1 b).length)
  (fun s hs=>by
   obtain⟨all,next⟩:=s
   by_cases q:next=0
   ·subst q
    exact .inl ⟨rfl,fun k kn=>by simp only [qbD,bne_self_eq_false,cond_false,qcO]⟩
   ·right
    obtain⟨m1,m2⟩:=qwp (l:=els next) hw ht 0 W32.zero
    generalize hm:(els next).foldl (fun m j=>ior .u32 m (iand .u32 (nth 0 to j) within)) 0=more at m1 m2
    have hmore:∀ b,bt more b=true↔∃ j,bt next j=true/\EB to within j b:=fun b=>by
     rw [m2 b,qfJ]
     simp only [qqg hs.w2]
     exact⟨fun h=>h.resolve_left fun h=>(by cases h),.inr⟩
    have hnb:∀ {j},bt next j=true->j<ns.length:=fun h=>by
     obtain⟨a,ha⟩:=Pk.last (hs.sound _ (.inr h))
     exact hb ha
    have hall:∀ b,bt (ior .u32 all next) b=true↔bt all b=true\/bt next b=true:=fun b=>by rw [qsz hs.w1 hs.w2,zw]
    have hnx:∀ b,bt (iandNot .u32 more (ior .u32 all next)) b=true↔bt more b=true/\¬ (bt all b=true\/bt next b=true):=fun b=>by
     rw [qvs m1 W32.ior,zB,zR,<- zBS,hall b]
    refine⟨(ior .u32 all next,iandNot .u32 more (ior .u32 all next)),⟨W32.ior,W32.iandNot,fun b h=>?_,fun b h=>?_,fun a b ha he=>?_,fun b he=>.inl ((hall b).2 (hs.base b he))⟩,?_,fun k kn=>?_⟩
    ·rcases h with h | h
     ·exact hs.sound b ((hall b).1 h)
     ·obtain⟨j,hj,he⟩:=(hmore b).1 ((hnx b).1 h).1
      exact (hs.sound j (.inr hj)).trans (hnb hj) (.one he)
    ·exact zAN.2 fun h'=>((hnx b).1 h).2 ((hall b).1 h')
    ·simp only [hall,hnx]
     rcases (hall a).1 ha with ha | ha
     ·exact .inl (hs.closed a b ha he)
     ·by_cases q':bt all b=true\/bt next b=true
      ·exact .inl q'
      ·exact .inr ⟨(hmore b).2 ⟨a,ha,he⟩,q'⟩
    ·obtain⟨b,hb32,hbn⟩:=bt_ex hs.w2 q
     refine Go.Abs.filter_lt (p:=fun b=>!bt (ior .u32 all next) b) (q:=fun b=>!bt all b) (List.range 32) (fun x _ h=>?_) ⟨b,zk.2 hb32,by simp only [hs.disj b hbn,Bool.not_false],by simp only [(hall b).2 (.inr hbn),Bool.not_true]⟩
     simp only [zR,<- zBS] at h ⊢
     exact fun h'=>h ((hall x).2 (.inl h'))
    ·simp only [qbD,show (next != (0:Int))=true from bne_iff_ne.2 q,cond_true,joinD,qqO,Option.bind_some,forE]
     have:=(qyy (R:=qP) hs.w2 (fun m j=>ior .u32 m (iand .u32 (nth 0 to j) within)) W32 (f:=fun y s kn=>qcM N ns es to within s (backE (ns,es,to,within) kn) y)
      (k:=fun s=>qcN N (backE (ns,es,to,within) kn) (ior .u32 all next) ns es to within s)
      (fun j s kn' _ hj hs'=>⟨by
       simp only [qcM,ge0_d,ht.len,lt_d (hnb hj),Bool.and_self,cond_true,Int.toNat_natCast,qU],W32.ior⟩) 0 W32.zero).1
     rw [hm] at this
     refine this.trans ?_
     simp only [qcN,qU]) N (0,iand .u32 (nth 0 to i) within)
  (by
   have hx:∀ b,bt (iand .u32 (nth 0 to i) within) b=true↔EB to within i b:=fun b=>by rw [qqI (ht.w i) hw,zB];exact Iff.rfl
   exact⟨W32.zero,W32.iand,fun b h=>by
    rcases h with h | h
    ·rw [qfJ] at h;cases h
    ·exact .one ((hx b).1 h),fun b _=>qfJ b,(fun a b h=>by rw [qfJ] at h;cases h),fun b h=>.inr ((hx b).2 h)⟩)
  (zBg (zAd _ _) (by rw [zAT];omega))
 obtain⟨all,next⟩:=s'
 simp only at h2
 subst h2
 have hz:∀ {b},(bt all b=true\/bt 0 b=true)->bt all b=true:=fun h=>by
  rcases h with h | h
  ·exact h
  ·rw [qfJ] at h;cases h
 refine⟨all,h3 (),h1.w1,fun b=>⟨fun h=>h1.sound b (.inl h),fun h=>?_⟩⟩
 have key:∀ {a b},Pk (EB to within) ns.length a b->(a=i\/bt all a=true)->bt all b=true:=by
  intro a b h
  induction h with
  | one he=>
   intro hh
   rcases hh with hh | ha
   ·subst hh;exact hz (h1.base _ he)
   ·exact hz (h1.closed _ _ ha he)
  | cons he hm _ ih=>
   intro hh
   rcases hh with hh | ha
   ·subst hh;exact ih (.inr (hz (h1.base _ he)))
   ·exact ih (.inr (hz (h1.closed _ _ ha he)))
 exact key h (.inl rfl)
end
end Go.Proofs.YtgnnhemoocfclaaDoor.Gh
