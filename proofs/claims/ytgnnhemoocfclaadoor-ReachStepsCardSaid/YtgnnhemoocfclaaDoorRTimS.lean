import Derived.Test.YtgnnhemoocfclaaDoorRTim
import Derived.Test.YtgnnhemoocfclaaDoorTimesP
import Derived.Test.YtgnnhemoocfclaaDoorAbsLat
namespace Go.Proofs.YtgnnhemoocfclaaDoor.Rea
open Go.Abs
theorem lt_d {i m : Nat} (h : i < m) : decide ((i : Int) < (m : Int)) = true:=qi (by omega)
theorem qaL (m : Nat) : decide ((m : Int) < (m : Int)) = false:=qj (by omega)
theorem ge0_d (i : Nat) : decide ((0 : Int) <= (i : Int)) = true:=qi (by omega)
theorem mem_nth {α : Type} {z a : α} {xs : List α} (h : a ∈ xs) : ∃ t,t < xs.length /\ nth z xs t = a:=by
 obtain ⟨t,ht,e⟩:=List.getElem_of_mem h
 exact ⟨t,ht,by rw [qcw ht,e]⟩
def tok (t : List Int) : Bool:=decide (1 <= t.length) && decide (t.length <= 4) && t.all fun x=>decide (0 <= x) && decide (x <= 1048576)
theorem qzy {t : List Int} (h : tok t = true) : 1 <= t.length /\ t.length <= 4:=by
 simp only [tok,Bool.and_eq_true,decide_eq_true_eq] at h; exact h.1
theorem ix1 {n i : Nat} (h : i < n) (hn : n <= 1000000000) : IntKind.i64.wrap ((i : Int) + 1) = (i : Int) + 1:=w64 (by omega) (by omega)
theorem Check_eq {N : Nat} (hN : 200000000 <= N) (t : List Int) : ∃ e,qbG N (t,()) = some (e,()) /\ (e = 0 ↔ tok t = true):=by
 simp only [qbG,qjU]
 by_cases h0 : t.length = 0
 ·refine ⟨1,?_,by simp [tok,h0]⟩
  rw [show ((t.length : Int) == 0) = true from by rw [beq_iff_eq]; omega,cond_true]
 rw [show ((t.length : Int) == 0) = false from beq_false_of_ne (by omega),cond_false]
 by_cases h4 : 4 < t.length
 ·refine ⟨1,?_,by simp [tok]; omega⟩
  rw [qi (by omega),cond_true]
 rw [qj (by omega),cond_false]
 simp only [joinD,loopE]
 have hbody : ∀ i,i < t.length -> ∀ kn,qeX N (fun _=>qhk N) t (t.length : Int) (i : Int) (backE (t,(t.length : Int)) kn) = if 0 <= nth 0 t i /\ nth 0 t i <= 1048576 then kn ((i : Int) + 1) else some (2,()):=fun i hi kn=>by
  simp only [qeX,lt_d hi,ge0_d,Bool.and_self,cond_true,Int.toNat_natCast,qG,ix1 hi (by omega)]
  by_cases q1 : nth 0 t i < 0
  ·rw [qi q1,cond_true,if_neg (by omega)]
  ·rw [qj q1,cond_false]
   by_cases q2 : nth 0 t i > 1048576
   ·rw [qi q2,cond_true,if_neg (by omega)]
   ·rw [qj q2,cond_false,if_pos (by omega)]
 have hall : (t.all fun x=>decide (0 <= x) && decide (x <= 1048576)) = true ↔ ∀ i,i < t.length -> 0 <= nth 0 t i /\ nth 0 t i <= 1048576:=by
  rw [List.all_eq_true]
  constructor
  ·intro h i hi
   simpa using h _ (qbu (z:=0) hi)
  ·intro h x hx
   obtain ⟨i,hi,rfl⟩:=mem_nth (z:=(0 : Int)) hx
   simpa using h i hi
 have htok : tok t = true ↔ ∀ i,i < t.length -> 0 <= nth 0 t i /\ nth 0 t i <= 1048576:=by
  rw [<- hall]; simp [tok]; omega
 by_cases hg : ∀ i,i < t.length -> 0 <= nth 0 t i /\ nth 0 t i <= 1048576
 ·refine ⟨0,qbQ (n:=t.length) (by omega) (fun i hi kn=>by rw [hbody i hi,if_pos (hg i hi)]) (fun kn=>by simp only [qeX,qaL,cond_false,qhk]) (by omega),by rw [htok]; exact ⟨fun _=>hg,fun _=>rfl⟩⟩
 ·refine ⟨2,qgW (n:=t.length) (by omega) (fun i=>¬ (0 <= nth 0 t i /\ nth 0 t i <= 1048576)) (fun i hi hb kn=>by rw [hbody i hi,if_neg hb]) (fun i hi hb kn=>by rw [hbody i hi,if_pos (Classical.not_not.1 hb)]) (by omega) ?_,by rw [htok]; exact ⟨fun h=>absurd h (by decide),fun h=>absurd h hg⟩⟩
  exact Classical.byContradiction fun hn=>hg fun i hi=>Classical.byContradiction fun hb=>hn ⟨i,hi,hb⟩
theorem qeZ {α : Type} (z x : α) (xs : List α) (i : Nat) : nth z (x :: xs) (i + 1) = nth z xs i:=by simp [nth]
theorem qpU : ∀ {a b : List Int},a.length = b.length -> (undr a b = true ↔ ∀ i,i < a.length -> nth 0 a i <= nth 0 b i)
 | [],_,_=>⟨fun _ i h=>absurd h (Nat.not_lt_zero _),fun _=>rfl⟩
 | _ :: _,[],h=>by cases h
 | x :: xs,y :: ys,h=>by
  have ih:=qpU (a:=xs) (b:=ys) (by simpa using h)
  simp only [undr,Bool.and_eq_true,decide_eq_true_eq,ih]
  constructor
  ·rintro ⟨h1,h2⟩ i hi
   cases i with
   | zero=>exact h1
   | succ i=>rw [qeZ,qeZ]; exact h2 i (by simpa using hi)
  ·intro h
   refine ⟨h 0 (by simp),fun i hi=>?_⟩
   have:=h (i + 1) (by simpa using hi)
   rwa [qeZ,qeZ] at this
theorem qza {N : Nat} {a b : List Int} (hl : a.length = b.length) (h1 : a.length <= 4) (hN : 200000000 <= N) : qcc N (a,b,()) = some (undr a b,()):=by
 simp only [qcc,qjT,joinD,loopE]
 have hbody : ∀ i,i < a.length -> ∀ kn,qeW N (fun _=>qhj N) a b (a.length : Int) (i : Int) (backE (a,b,(a.length : Int)) kn) = if nth 0 a i <= nth 0 b i then kn ((i : Int) + 1) else some (false,()):=fun i hi kn=>by
  simp only [qeW,lt_d hi,lt_d (show i < b.length by omega),ge0_d,Bool.and_self,cond_true,Int.toNat_natCast,qG,ix1 hi (by omega)]
  by_cases q : nth 0 a i <= nth 0 b i
  ·rw [qj (by omega),cond_false,if_pos q]
  ·rw [qi (by omega),cond_true,if_neg q]
 have hu:=qpU hl
 by_cases hg : ∀ i,i < a.length -> nth 0 a i <= nth 0 b i
 ·rw [hu.2 hg]
  exact qbQ (n:=a.length) (by omega) (fun i hi kn=>by rw [hbody i hi,if_pos (hg i hi)]) (fun kn=>by simp only [qeW,qaL,cond_false,qhj]) (by omega)
 ·rw [Bool.eq_false_iff.2 fun h=>hg (hu.1 h)]
  refine qgW (n:=a.length) (by omega) (fun i=>¬ nth 0 a i <= nth 0 b i) (fun i hi hb kn=>by rw [hbody i hi,if_neg hb]) (fun i hi hb kn=>by rw [hbody i hi,if_pos (Classical.not_not.1 hb)]) (by omega) ?_
  exact Classical.byContradiction fun hn=>hg fun i hi=>Classical.byContradiction fun hb=>hn ⟨i,hi,hb⟩
theorem qxZ (N : Nat) (x y : Int) : qax N (x,y,()) = some (if x < y then -1 else if y < x then 1 else 0,()):=by
 simp only [qax,qhd,qbU,qiv,bne_self_eq_false,Option.bind_some,cond_false]
 by_cases h1 : x < y
 ·rw [qi h1,cond_true,if_pos h1]
 ·rw [qj h1,cond_false,if_neg h1]
  by_cases h2 : y < x
  ·rw [qi h2,cond_true,if_pos h2]
  ·rw [qj h2,cond_false,if_neg h2]
theorem qwT {a b : List Int} {i : Nat} (h1 : i < a.length) (h2 : i < b.length) : lexc (a.drop i) (b.drop i) = if nth 0 a i < nth 0 b i then -1 else if nth 0 b i < nth 0 a i then 1 else lexc (a.drop (i + 1)) (b.drop (i + 1)):=by
 rw [List.drop_eq_getElem_cons h1,List.drop_eq_getElem_cons h2,qcw h1,qcw h2]
 rfl
theorem qvX {N : Nat} {a b : List Int} (h1 : a.length <= 4) (hN : 200000000 <= N) : qaj N (a,b,()) = some (lexc a b,()):=by
 simp only [qaj,qcZ,joinD,loopE]
 refine qfz (fun s=>∃ i : Nat,s = (i : Int) /\ i <= a.length /\ i <= b.length /\ lexc (a.drop i) (b.drop i) = lexc a b) (fun s=>a.length - s.toNat) _ ?_ N _ ⟨0,rfl,Nat.zero_le _,Nat.zero_le _,rfl⟩ (by simp; omega)
 rintro s ⟨i,rfl,hi,hib,hx⟩ kn hkn
 by_cases hia : i < a.length
 ·simp only [qbI,lt_d hia,ge0_d,Bool.and_self,cond_true,Int.toNat_natCast]
  by_cases hb : i < b.length
  ·rw [qj (by omega),cond_false,qxZ,Option.bind_some,lt_d hb,Bool.and_self,cond_true]
   rw [qwT hia hb] at hx
   by_cases q1 : nth 0 a i < nth 0 b i
   ·rw [if_pos q1] at hx ⊢
    rw [<- hx]; rfl
   ·rw [if_neg q1] at hx ⊢
    by_cases q2 : nth 0 b i < nth 0 a i
    ·rw [if_pos q2] at hx ⊢
     rw [<- hx]; rfl
    ·rw [if_neg q2] at hx ⊢
     simp only [bne_self_eq_false,cond_false,qG,ix1 hia (by omega)]
     exact hkn _ ⟨i + 1,rfl,by omega,by omega,hx⟩ (by simp; omega)
  ·rw [qi (by omega),cond_true,<- hx,List.drop_of_length_le (l:=b) (by omega),List.drop_eq_getElem_cons hia]
   rfl
 ·have hia : i = a.length:=by omega
  subst hia
  simp only [qbI,qaL,cond_false,qda]
  rw [<- hx,List.drop_of_length_le (Nat.le_refl _)]
  by_cases hb : a.length < b.length
  ·rw [qi (by omega),cond_true,List.drop_eq_getElem_cons hb]; rfl
  ·rw [qj (by omega),cond_false,List.drop_of_length_le (by omega)]; rfl
theorem qqZ {N : Nat} {a : List Int} (h : a.length <= 200000000) : qN N (a,()) = some a:=by
 simp only [qN,qdL]
 rw [qi (by simp; omega)]
 cases a with
 | nil=>simp [dem2]; rfl
 | cons x xs=>simp; rfl
theorem qtq {α : Type} {D D' : α -> α -> Option Int} {xs ys : List α} (h : ∀ a ∈ xs,∀ b ∈ xs,D a b = D' a b) (hs : sortR D' xs = some ys) : sortR D xs = some ys:=by
 obtain ⟨h1,h2,h3⟩:=qld hs
 have hl : ∀ a ∈ xs,∀ b ∈ xs,ltB D a b = ltB D' a b:=fun a ha b hb=>by unfold ltB; rw [h a ha b hb]
 refine qqd ⟨h1.lt,fun a ha b hb=>by rw [h a ha b hb]; exact h1.tot a ha b hb,fun a ha=>by rw [hl a ha a ha]; exact h1.irrefl a ha,
  fun a ha b hb c hc p q=>by rw [hl a ha c hc]; rw [hl a ha b hb] at p; rw [hl b hb c hc] at q; exact h1.trans a ha b hb c hc p q,
  fun a ha b hb p q=>by rw [hl a ha b hb] at p; rw [hl b hb a ha] at q; exact h1.anti a ha b hb p q⟩ ⟨h2,h3.imp_of_mem fun {a b} ha hb p=>by rw [hl b (h2.subset hb) a (h2.subset ha)]; exact p⟩
structure TL (xs : List (List Int)) : Prop where
 len : xs.length <= 100000000
 tok : ∀ t ∈ xs,tok t = true
 one : ∀ t ∈ xs,t.length = (nth [] xs 0).length
end Go.Proofs.YtgnnhemoocfclaaDoor.Rea
