import Derived.Test.YtgnnhemoocfclaaDoorGhC
namespace Go.Proofs.YtgnnhemoocfclaaDoor.Gh
open Go.Abs Go.Gr
theorem qtJ {R : Type} {g : Int -> (Int -> Option R) -> Option R} {n : Nat} (r : Nat -> Option R) (bad : Nat -> Prop) (h1 : ∀ i : Nat,i < n -> bad i -> ∀ kn,g i kn = r i) (h2 : ∀ i : Nat,i < n -> ¬ bad i -> ∀ kn,g i kn = kn ((i : Int) + 1))
  {N : Nat} (hN : n < N) (hb : ∃ i,i < n /\ bad i) : ∃ i,i < n /\ bad i /\ loopD g N 0 = r i:=by
 obtain ⟨b,⟨hbn,hbb⟩,hle⟩:=least hb
 refine ⟨b,hbn,hbb,?_⟩
 exact qdD (g:=g) b (fun i=>(i : Int)) (fun i hi kn=>by rw [h2 i (by omega) (fun h=>by have:=hle i ⟨by omega,h⟩; omega)]; rfl) (fun kn=>h1 b hbn hbb kn) (by omega)
theorem qgk {R : Type} {g : Int -> (Int -> Option R) -> Option R} {n : Nat} (Q : Option R -> Prop) (r : Nat -> Option R) (bad : Nat -> Prop) {N : Nat} (hN : n < N) (hb : ∃ i,i < n /\ bad i) (h1 : ∀ i : Nat,i < n -> bad i -> ∀ kn,g i kn = r i) (h2 : ∀ i : Nat,i < n -> ¬ bad i -> ∀ kn,g i kn = kn ((i : Int) + 1))
  (hq : ∀ i,i < n -> bad i -> Q (r i)) : Q (loopD g N 0):=by
 obtain ⟨i,hi,hbi,e⟩:=qtJ r bad h1 h2 hN hb
 rw [e]; exact hq i hi hbi
def cnt (es : List Ed) (i : Nat) : Nat:=es.countP fun e=>decide (e.2.1 = (i : Int))
def qac (ns : List Nd) (j : Nat) : Int:=(nth z5 ns j).2.1
structure GrOk (ns : List Nd) (es : List Ed) : Prop where
 n12 : ns.length <= 12
 e20 : es.length <= 20
 nodes : ∀ x ∈ ns,qaf x = true
 edges : ∀ i,i < es.length -> qoj ns es i
 ports : ∀ i,i < ns.length -> prt (nth z5 ns i) <= cnt es i
 rings : ∀ i j,i < ns.length -> j < ns.length -> ¬ (Pk (EdG ns es (qac ns j)) ns.length i j /\ Pk (EdG ns es (qac ns j)) ns.length j i)
theorem GrOk.deep {ns : List Nd} {es : List Ed} (h : GrOk ns es) {j : Nat} (hj : j < ns.length) : 1 <= qac ns j /\ qac ns j <= 4:=by
 have:=qcg.1 (h.nodes _ (qbu (z:=z5) hj))
 exact ⟨this.1,this.2.1⟩
section
variable {N : Nat} {ns : List Nd} {es : List Ed}
theorem qAk (hN : 1000 <= N) (he : es.length <= 20) (n i : Nat) (a b : Int) : ∀ k : _ -> Option qg,
  loopE (fun (c : Int × Int × (List Ed) × Int × (List Nd) × (List Ed) × Int × Int) (s : Int × Int) kn=>qbk N k c.1 c.2.1 c.2.2.1 c.2.2.2.1 c.2.2.2.2.1 c.2.2.2.2.2.1 c.2.2.2.2.2.2.1 c.2.2.2.2.2.2.2 s.1 s.2 kn) N
   ((n : Int),(i : Int),es,(es.length : Int),ns,es,a,b) ((0 : Int),(0 : Int)) = k ((n : Int),(i : Int),((cnt es i : Nat) : Int),ns,es,a,b):=by
 simp only [loopE]
 obtain ⟨s',hI,e⟩:=qfi (fun (k : _ -> Option qg) s kn=>qbk N k (n : Int) (i : Int) es (es.length : Int) ns es a b s.1 s.2 (backE ((n : Int),(i : Int),es,(es.length : Int),ns,es,a,b) kn)) (fun k (s : Int × Int)=>k ((n : Int),(i : Int),s.1,ns,es,a,b)) es.length
  (fun j s=>s.1 = ((cnt (es.take j) i : Nat) : Int) /\ s.2 = (j : Int)) (N:=N) (s:=((0 : Int),(0 : Int)))
  (by
   rintro j ⟨_,_⟩ hj ⟨rfl,rfl⟩
   have hle : cnt (es.take j) i <= 20:=Nat.le_trans List.countP_le_length (by simp; omega)
   have hix : IntKind.i64.wrap ((j : Int) + 1) = (j : Int) + 1:=w64 (by omega) (by omega)
   have hcx : IntKind.i64.wrap (((cnt (es.take j) i : Nat) : Int) + 1) = ((cnt (es.take j) i : Nat) : Int) + 1:=w64 (by omega) (by omega)
   have hs : cnt (es.take (j + 1)) i = cnt (es.take j) i + if (nth z3 es j).2.1 = (i : Int) then 1 else 0:=by
    unfold cnt
    rw [List.take_succ_eq_append_getElem hj,List.countP_append,<- qcw (z:=z3) hj]
    congr 1
    by_cases h : (nth z3 es j).2.1 = (i : Int) <;> simp [h]
   by_cases h : (nth z3 es j).2.1 = (i : Int)
   ·refine ⟨(((cnt (es.take j) i : Nat) : Int) + 1,(j : Int) + 1),⟨by rw [hs,if_pos h]; simp,by simp⟩,fun K kn=>?_⟩
    simp only [qbk,lt_d hj,ge0_d,Int.toNat_natCast,Bool.and_self,cond_true,hix,hcx,qG]
    rw [show ((nth z3 es j).2.1 == (i : Int)) = true from beq_iff_eq.2 h]; rfl
   ·refine ⟨(((cnt (es.take j) i : Nat) : Int),(j : Int) + 1),⟨by rw [hs,if_neg h]; simp,by simp⟩,fun K kn=>?_⟩
    simp only [qbk,lt_d hj,ge0_d,Int.toNat_natCast,Bool.and_self,cond_true,hix,qG]
    rw [show ((nth z3 es j).2.1 == (i : Int)) = false from beq_false_of_ne h]; rfl)
  (by
   rintro ⟨_,_⟩ ⟨rfl,rfl⟩ K kn
   simp only [qbk,qaL,cond_false])
  (by omega) ⟨rfl,rfl⟩
 intro k
 have:=e k
 rw [hI.1,List.take_length] at this
 exact this
theorem w3 {x : Int} (h1 : 1 <= x) (h4 : x <= 4) : IntKind.i64.wrap (x - 1) = ((x.toNat - 1 : Nat) : Int):=by rw [w64 (by omega) (by omega)]; omega
theorem GraphCheck_eq (hN : 1000 <= N) (ns : List Nd) (es : List Ed) : ∃ c p : Int,qbz N ((ns,es),()) = some ((c,p),()) /\ (c = 0 ↔ GrOk ns es):=by
 simp only [qbz,qgL]
 by_cases g1 : (ns.length : Int) > 12
 ·exact ⟨1,0,by rw [qi g1]; rfl,by simp; intro h; have:=h.n12; omega⟩
 by_cases g2 : (es.length : Int) > 20
 ·exact ⟨1,0,by rw [qj g1,qi g2]; rfl,by simp; intro h; have:=h.e20; omega⟩
 rw [qj g1,qj g2]
 simp only [cond_false,joinD,loopE]
 have hn : ns.length <= 12:=by omega
 have he : es.length <= 20:=by omega
 have hix : ∀ i : Nat,i < 21 -> IntKind.i64.wrap ((i : Int) + 1) = (i : Int) + 1:=fun i hi=>w64 (by omega) (by omega)
 have b15 : ∀ (K : _ -> Option qg) (i : Nat),i < ns.length -> ∀ kn,qcD N K (ns.length : Int) ns es 0 0 (i : Int) (backE ((ns.length : Int),ns,es,(0 : Int),(0 : Int)) kn) =
   if qaf (nth z5 ns i) = true then kn ((i : Int) + 1) else some ((2,(i : Int)),()):=fun K i hi kn=>by
  simp only [qcD,lt_d hi,ge0_d,Int.toNat_natCast,Bool.and_self,cond_true,nd_eta,qvW N (nth z5 ns i),Option.bind_some,hix i (by omega),qG]
  cases qaf (nth z5 ns i) <;> rfl
 by_cases h3 : ∃ i,i < ns.length /\ ¬ qaf (nth z5 ns i) = true
 ·refine qgk (n:=ns.length) (N:=N) (fun o=>∃ c p : Int,o = some ((c,p),()) /\ (c = 0 ↔ GrOk ns es)) (fun i=>some (((2 : Int),(i : Int)),())) (fun i=>¬ qaf (nth z5 ns i) = true) (by omega) h3 (fun i hi hb kn=>by rw [b15 _ i hi,if_neg hb]) (fun i hi hb kn=>by rw [b15 _ i hi,if_pos (Decidable.not_not.1 hb)]) (fun i hi hb=>?_)
  exact ⟨2,i,rfl,by simp; intro h; exact hb (h.nodes _ (qbu hi))⟩
 have hok : ∀ x ∈ ns,qaf x = true:=fun x hx=>by
  obtain ⟨i,hi,rfl⟩:=mem_nth (z:=z5) hx
  exact Decidable.not_not.1 fun h=>h3 ⟨i,hi,h⟩
 have hoki : ∀ i,i < ns.length -> qaf (nth z5 ns i) = true:=fun i hi=>hok _ (qbu hi)
 rw [qbQ (n:=ns.length) (N:=N) (by omega) (fun i hi kn=>by rw [b15 _ i hi,if_pos (hoki i hi)]) (fun kn=>by simp only [qcD,qaL,cond_false]; rfl) (by omega)]
 simp only [qgM,joinD,loopE]
 have eq' : ∀ i,∃ c : Int,i < es.length -> qef N ((ns,es),(i : Int),()) = some (c,()) /\ (c = 0 ↔ qoj ns es i):=fun i=>by
  by_cases hi : i < es.length
  ·obtain ⟨c,h⟩:=qAc (N:=N) hN hi he hn hok; exact ⟨c,fun _=>h⟩
  ·exact ⟨0,fun h=>absurd h hi⟩
 obtain ⟨ec,hec⟩:=Classical.axiomOfChoice eq'
 have b13 : ∀ (K : _ -> Option qg) (i : Nat),i < es.length -> ∀ kn,qcE N K (ns.length : Int) ns es 0 0 (i : Int) (backE ((ns.length : Int),ns,es,(0 : Int),(0 : Int)) kn) =
   if ec i = 0 then kn ((i : Int) + 1) else some ((ec i,(i : Int)),()):=fun K i hi kn=>by
  simp only [qcE,lt_d hi,cond_true,(hec i hi).1,Option.bind_some,hix i (by omega),qG]
  by_cases q : ec i = 0
  ·rw [if_pos q,q,bne_self_eq_false]; rfl
  ·rw [if_neg q,show (ec i != 0) = true from bne_iff_ne.2 q]; rfl
 by_cases h4 : ∃ i,i < es.length /\ ¬ ec i = 0
 ·refine qgk (n:=es.length) (N:=N) (fun o=>∃ c p : Int,o = some ((c,p),()) /\ (c = 0 ↔ GrOk ns es)) (fun i=>some ((ec i,(i : Int)),())) (fun i=>¬ ec i = 0) (by omega) h4 (fun i hi hb kn=>by rw [b13 _ i hi,if_neg hb]) (fun i hi hb kn=>by rw [b13 _ i hi,if_pos (Decidable.not_not.1 hb)]) (fun i hi hb=>?_)
  exact ⟨ec i,i,rfl,⟨fun h=>absurd h hb,fun h=>absurd ((hec i hi).2.2 (h.edges i hi)) hb⟩⟩
 have hed : ∀ i,i < es.length -> qoj ns es i:=fun i hi=>(hec i hi).2.1 (Decidable.not_not.1 fun h=>h4 ⟨i,hi,h⟩)
 rw [qbQ (n:=es.length) (N:=N) (by omega) (fun i hi kn=>by rw [b13 _ i hi,if_pos (Decidable.not_not.1 fun h=>h4 ⟨i,hi,h⟩)]) (fun kn=>by simp only [qcE,qaL,cond_false]; rfl) (by omega)]
 simp only [qgN,joinD,loopE]
 have b11 : ∀ (K : _ -> Option qg) (i : Nat),i < ns.length -> ∀ kn,qcF N K (ns.length : Int) ns es 0 0 (i : Int) (backE ((ns.length : Int),ns,es,(0 : Int),(0 : Int)) kn) =
   if prt (nth z5 ns i) <= cnt es i then kn ((i : Int) + 1) else some ((5,(i : Int)),()):=fun K i hi kn=>by
  simp only [qcF,lt_d hi,cond_true,joinD]
  rw [qAk hN he]
  simp only [qhL,lt_d hi,ge0_d,Int.toNat_natCast,Bool.and_self,cond_true,nd_eta,qvm N (nth z5 ns i),Option.bind_some,qhM,hix i (by omega),qG]
  by_cases q : prt (nth z5 ns i) <= cnt es i
  ·rw [if_pos q,qj (show ¬ ((cnt es i : Nat) : Int) < prt (nth z5 ns i) by omega)]; rfl
  ·rw [if_neg q,qi (show ((cnt es i : Nat) : Int) < prt (nth z5 ns i) by omega)]; rfl
 by_cases h5 : ∃ i,i < ns.length /\ ¬ prt (nth z5 ns i) <= cnt es i
 ·refine qgk (n:=ns.length) (N:=N) (fun o=>∃ c p : Int,o = some ((c,p),()) /\ (c = 0 ↔ GrOk ns es)) (fun i=>some (((5 : Int),(i : Int)),())) (fun i=>¬ prt (nth z5 ns i) <= cnt es i) (by omega) h5 (fun i hi hb kn=>by rw [b11 _ i hi,if_neg hb]) (fun i hi hb kn=>by rw [b11 _ i hi,if_pos (Decidable.not_not.1 hb)]) (fun i hi hb=>?_)
  exact ⟨5,i,rfl,by simp; intro h; exact hb (h.ports i hi)⟩
 have hpo : ∀ i,i < ns.length -> prt (nth z5 ns i) <= cnt es i:=fun i hi=>Decidable.not_not.1 fun h=>h5 ⟨i,hi,h⟩
 rw [qbQ (n:=ns.length) (N:=N) (by omega) (fun i hi kn=>by rw [b11 _ i hi,if_pos (hpo i hi)]) (fun kn=>by simp only [qcF,qaL,cond_false]; rfl) (by omega)]
 simp only [qhN,joinD,loopE]
 have hv : ∀ x ∈ es,0 <= x.1 /\ x.1 < ns.length /\ 0 <= x.2.1 /\ x.2.1 < ns.length:=fun x hx=>by
  obtain ⟨i,hi,rfl⟩:=mem_nth (z:=z3) hx
  have:=hed i hi
  exact ⟨this.f0,this.fn,this.t0,this.tn⟩
 obtain ⟨W,hW⟩:=Classical.axiomOfChoice fun f=>qyR (N:=N) hN hn he hv f
 obtain ⟨s',hI,e⟩:=qsm (g:=fun (s : Int × List (List Bool)) kn=>qdl N (fun s=>qdm N s.1 s.2.1 s.2.2.1 s.2.2.2.1 s.2.2.2.2.1 s.2.2.2.2.2) (ns.length : Int) ns es 0 0 s.1 s.2 (backE ((ns.length : Int),ns,es,(0 : Int),(0 : Int)) kn))
  (k:=fun s : Int × List (List Bool)=>qdm N (ns.length : Int) ns es 0 0 s.2) 4 (fun i s=>s.1 = (i : Int) + 1 /\ s.2 = (List.range i).map fun j : Nat=>W ((j : Int) + 1)) (N:=N) (s:=((1 : Int),([] : List (List Bool))))
  (by
   rintro i ⟨_,_⟩ hi ⟨rfl,rfl⟩
   refine ⟨((i : Int) + 1 + 1,(List.range i).map (fun j : Nat=>W ((j : Int) + 1)) ++ [W ((i : Int) + 1)]),⟨by simp,by simp [List.range_succ]⟩,fun kn=>?_⟩
   simp only [qdl,(hW _).1,Option.bind_some,qG,List.length_map,List.length_range,List.length_singleton]
   rw [qi (show (i : Int) + 1 <= 4 by omega),qi (show (i + 1) * 24 <= 140737488355328 by omega),w64 (n:=(i : Int) + 1 + 1) (by omega) (by omega)]; rfl)
  (by
   rintro ⟨_,_⟩ ⟨rfl,rfl⟩ kn
   simp only [qdl]
   rw [qj (show ¬ (((4 : Nat) : Int) + 1 <= 4) by omega)]; rfl)
  (by omega) ⟨rfl,rfl⟩
 rw [e,hI.2]
 generalize hways : (List.range 4).map (fun j : Nat=>W ((j : Int) + 1)) = ways
 have hwl : ways.length = 4:=by rw [<- hways]; simp
 have hwn : ∀ d : Int,1 <= d -> d <= 4 -> nth ([] : List Bool) ways (d.toNat - 1) = W d:=fun d h1 h4=>by
  rw [qcw (show d.toNat - 1 < ways.length by omega)]
  subst hways
  simp only [List.getElem_map,List.getElem_range]
  congr 1
  omega
 simp only [qdm,joinD,loopE]
 have hdeep : ∀ j,j < ns.length -> 1 <= qac ns j /\ qac ns j <= 4:=fun j hj=>by
  have:=qcg.1 (hoki j hj)
  exact ⟨this.1,this.2.1⟩
 have b3 : ∀ (K : _ -> Option qg) (i j : Nat),i < ns.length -> j < ns.length -> ∀ kn,qdo N K (ns.length : Int) (i : Int) ns es 0 0 ways (j : Int) (backE ((ns.length : Int),(i : Int),ns,es,(0 : Int),(0 : Int),ways) kn) =
   if RW ns.length (W (qac ns j)) i j /\ RW ns.length (W (qac ns j)) j i then some ((9,(i : Int)),()) else kn ((j : Int) + 1):=fun K i j hi hj kn=>by
  obtain ⟨d1,d4⟩:=hdeep j hj
  have hl:=(hW (qac ns j)).2.1
  have l1:=lt_d (show i * ns.length + j < (W (qac ns j)).length by rw [hl]; exact qnB hi hj)
  have l2:=lt_d (show j * ns.length + i < (W (qac ns j)).length by rw [hl]; exact qnB hj hi)
  have l3:=lt_d (show (qac ns j).toNat - 1 < ways.length by omega)
  have e3 : IntKind.i64.wrap (qac ns j - 1) = (((qac ns j).toNat - 1 : Nat) : Int):=w3 d1 d4
  have e4 : (nth ((0 : Int),(0 : Int),(0 : Int),(0 : Int),(0 : Int)) ns j).2.1 = qac ns j:=rfl
  simp only [qdo,lt_d hj,ge0_d,Int.toNat_natCast,Bool.and_self,cond_true,e4,e3,l3,hwn _ d1 d4,idx_w hn hi hj,idx_w hn hj hi,l1,l2,hix j (by omega),qG]
  cases q1 : nth false (W (qac ns j)) (i * ns.length + j) with
  | false=>rw [cond_false,if_neg (fun h=>by have:=h.1; unfold RW at this; rw [q1] at this; cases this)]
  | true =>
   cases q2 : nth false (W (qac ns j)) (j * ns.length + i) with
   | false=>rw [cond_true,cond_false,if_neg (fun h=>by have:=h.2; unfold RW at this; rw [q2] at this; cases this)]
   | true=>rw [cond_true,cond_true,if_pos ⟨q1,q2⟩]
 have b4 : ∀ (K : _ -> Option qg) (i : Nat),i < ns.length -> ∀ kn,qdn N K (ns.length : Int) ns es 0 0 ways (i : Int) (backE ((ns.length : Int),ns,es,(0 : Int),(0 : Int),ways) kn) =
   open Classical in if ∃ j,j < ns.length /\ RW ns.length (W (qac ns j)) i j /\ RW ns.length (W (qac ns j)) j i then some ((9,(i : Int)),()) else kn ((i : Int) + 1):=fun K i hi kn=>by
  simp only [qdn,lt_d hi,cond_true,joinD,loopE]
  by_cases q : ∃ j,j < ns.length /\ RW ns.length (W (qac ns j)) i j /\ RW ns.length (W (qac ns j)) j i
  ·rw [if_pos q]
   exact qgW (n:=ns.length) (by omega) (fun j=>RW ns.length (W (qac ns j)) i j /\ RW ns.length (W (qac ns j)) j i) (fun j hj hb kn=>by rw [b3 _ i j hi hj,if_pos hb]) (fun j hj hb kn=>by rw [b3 _ i j hi hj,if_neg hb]) (by omega) q
  ·rw [if_neg q]
   refine qbQ (n:=ns.length) (by omega) (fun j hj kn=>by rw [b3 _ i j hi hj,if_neg (fun h=>q ⟨j,hj,h⟩)]) (fun kn=>?_) (by omega)
   simp only [qdo,qaL,cond_false,qhO,hix i (by omega),qG]
 have hR : ∀ i j,i < ns.length -> j < ns.length -> (RW ns.length (W (qac ns j)) i j /\ RW ns.length (W (qac ns j)) j i ↔ Pk (EdG ns es (qac ns j)) ns.length i j /\ Pk (EdG ns es (qac ns j)) ns.length j i):=fun i j hi hj=>by
  rw [(hW (qac ns j)).2.2 i j hi hj,(hW (qac ns j)).2.2 j i hj hi]
 by_cases h6 : ∃ i,i < ns.length /\ ∃ j,j < ns.length /\ RW ns.length (W (qac ns j)) i j /\ RW ns.length (W (qac ns j)) j i
 ·refine qgk (n:=ns.length) (N:=N) (fun o=>∃ c p : Int,o = some ((c,p),()) /\ (c = 0 ↔ GrOk ns es)) (fun i=>some (((9 : Int),(i : Int)),())) (fun i=>∃ j,j < ns.length /\ RW ns.length (W (qac ns j)) i j /\ RW ns.length (W (qac ns j)) j i) (by omega) h6 (fun i hi hb kn=>by rw [b4 _ i hi,if_pos hb]) (fun i hi hb kn=>by rw [b4 _ i hi,if_neg hb]) (fun i hi hb=>?_)
  obtain ⟨j,hj,hb⟩:=hb
  exact ⟨9,i,rfl,by simp; intro h; exact h.rings i j hi hj ((hR i j hi hj).1 hb)⟩
 ·refine ⟨0,0,?_,⟨fun _=>⟨hn,he,hok,hed,hpo,fun i j hi hj h=>h6 ⟨i,hi,j,hj,(hR i j hi hj).2 h⟩⟩,fun _=>rfl⟩⟩
  exact qbQ (n:=ns.length) (by omega) (fun i hi kn=>by rw [b4 _ i hi,if_neg (fun h=>h6 ⟨i,hi,h⟩)]) (fun kn=>by simp only [qdn,qaL,cond_false,qhP]) (by omega)
end
end Go.Proofs.YtgnnhemoocfclaaDoor.Gh
