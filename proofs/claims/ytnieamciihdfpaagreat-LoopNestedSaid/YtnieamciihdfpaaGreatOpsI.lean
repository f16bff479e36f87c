import Derived.Test.YtnieamciihdfpaaGreatBagsS
import Derived.Test.YtnieamciihdfpaaGreatAbsFrag
import Derived.Test.YtnieamciihdfpaaGreatAbsLp
import Derived.Test.YtnieamciihdfpaaGreatProg
import Derived.KernelRfl
import Derived.RangeFuncBox
import Derived.RangeFuncLeaves
import Derived.Shelf.Abstract
import Derived.WalkKit
import Derived.OwnWalkIn
import Derived.TacticsInMore
import Derived.LoopNIn
import Derived.LoopIn
import Derived.Sort.QuietIn
namespace Go.Proofs.YtnieamciihdfpaaGreat
open Go.Abs Go.RowKit Go.Shelf
attribute [local go_sem] Oper.semAt_some
abbrev Rw := Int × Int × Int
def hdn : List Rw → Nat
 | [] => 0
 | r :: l => (l.takeWhile fun s => s.1 == r.1).length + 1
theorem hdn_le : (l : List Rw) → hdn l ≤ l.length
 | [] => Nat.le_refl _
 | r :: l => by
  have := (List.takeWhile_sublist (l := l) fun s : Rw => s.1 == r.1).length_le
  simp only [hdn, List.length_cons]
  omega
def grpF : Nat → List Rw → List (List Rw)
 | 0, _ => []
 | _ + 1, [] => []
 | n + 1, r :: l => (r :: l).take (hdn (r :: l)) :: grpF n ((r :: l).drop (hdn (r :: l)))
def grp (l : List Rw) : List (List Rw) := grpF l.length l
theorem grpF_more : (n : Nat) → (l : List Rw) → l.length ≤ n → grpF n l = grp l
 | 0, l, h => by
  have : l = [] := List.eq_nil_of_length_eq_zero (by omega)
  subst this; rfl
 | n + 1, [], _ => rfl
 | n + 1, r :: l, h => by
  have h1 : ((r :: l).drop (hdn (r :: l))).length ≤ l.length := by
   rw [List.length_drop]
   simp only [List.length_cons, hdn]
   omega
  simp only [List.length_cons] at h
  unfold grp
  simp only [List.length_cons, grpF]
  rw [grpF_more n _ (by omega), grpF_more l.length _ h1]
theorem grp_nil : grp [] = [] := rfl
theorem grp_cons (r : Rw) (l : List Rw) : grp (r :: l) = (r :: l).take (hdn (r :: l)) :: grp ((r :: l).drop (hdn (r :: l))) := by
 have h1 : ((r :: l).drop (hdn (r :: l))).length ≤ l.length := by
  rw [List.length_drop]
  simp only [List.length_cons, hdn]
  omega
 unfold grp
 simp only [List.length_cons, grpF]
 rw [grpF_more l.length _ h1]
 rfl
theorem hdn_pos {l : List Rw} (h : l ≠ []) : 0 < hdn l := by
 cases l with
 | nil => exact absurd rfl h
 | cons r l => simp only [hdn]; omega
def kyAt (l : List Rw) (i : Nat) : Int := (nth ((0 : Int), (0 : Int), (0 : Int)) l i).1
theorem kyAt_drop (l : List Rw) (n i : Nat) : kyAt (l.drop n) i = kyAt l (n + i) := by
 unfold kyAt nth
 rw [List.getD_eq_getElem?_getD, List.getD_eq_getElem?_getD, List.getElem?_drop]
theorem tw_in : (l : List Rw) → (k : Int) → (i : Nat) → i < (l.takeWhile fun s => s.1 == k).length → kyAt l i = k
 | [], _, _, h => by simp at h
 | r :: l, k, i, h => by
  by_cases q : r.1 = k
  ·rw [List.takeWhile_cons_of_pos (by simp [q])] at h
   cases i with
   | zero => exact q
   | succ i => exact tw_in l k i (by simpa using h)
  ·rw [List.takeWhile_cons_of_neg (by simp [q])] at h; simp at h
theorem tw_out : (l : List Rw) → (k : Int) → (l.takeWhile fun s => s.1 == k).length < l.length → kyAt l (l.takeWhile fun s => s.1 == k).length ≠ k
 | [], _, h => by simp at h
 | r :: l, k, h => by
  by_cases q : r.1 = k
  ·rw [List.takeWhile_cons_of_pos (by simp [q])] at h ⊢
   exact tw_out l k (by simpa using h)
  ·rw [List.takeWhile_cons_of_neg (by simp [q])]
   exact q
theorem hdn_in {l : List Rw} {i : Nat} (h : i < hdn l) : kyAt l i = kyAt l 0 := by
 cases l with
 | nil => simp [hdn] at h
 | cons r l =>
  cases i with
  | zero => rfl
  | succ i => exact tw_in l r.1 i (by simp only [hdn] at h; omega)
theorem hdn_out {l : List Rw} (h : hdn l < l.length) : kyAt l (hdn l) ≠ kyAt l 0 := by
 cases l with
 | nil => simp [hdn] at h
 | cons r l => exact tw_out l r.1 (by simp only [hdn, List.length_cons] at h; omega)
theorem below_drewN (w : World) (k : Nat) : Go.Abs.Below w.heap.size w (w.drewN k) := ⟨rfl, ⟨rfl, Nat.le_add_right _ _⟩, rfl, Nat.le_refl _, fun _ _ => rfl⟩
def natOf : Value → Nat
 | .int _ n => n.toNat
 | _ => 0
set_option maxRecDepth 100000 in
set_option maxHeartbeats 1500000 in
theorem keyed_in (n l b q cap : Nat) (xs : List Rw) (a : Option Addr) (ha : xs ≠ [] → a = some ⟨b, q, none⟩) (hlen : xs.length ≤ cap) (hcap : cap ≤ maxI) (J : Nat → World → Prop) (Jx : World → Prop)
  (hJg : ∀ i X Y, J i X → Go.Abs.Below X.heap.size X Y → J i Y) (hC : ∀ i X, J i X → ∀ j, j < xs.length → X.cell? ⟨b, q + j * 3, none⟩ = some (.int .i64 (kyAt xs j)))
  (hY : ∀ i fr len X, (grp xs)[i]? = some ((xs.drop fr).take len) → fr + len ≤ xs.length → 0 < len → J i X →
   YieldAt Fence.wide (n - 1) Tryz.prog l #[.slice (some ⟨b, q + fr * 3, none⟩) len (cap - fr)] X fun e W' => (e = .returned (.bool true) ∧ J (i + 1) W') ∨ (e = .returned (.bool false) ∧ Jx W'))
  (W : World) (h0 : J 0 W) :
  CallsIn Fence.wide n Tryz.prog 79 #[.slice a xs.length cap, .func (.yield l) #[] #[]] W fun e W' => (∃ v, e = .returned v) ∧ (J (grp xs).length W' ∨ Jx W') := by
 refine callsIn_of_wp Tryz.func79 rfl trivial ?_ rfl
 simp only [Tryz.ntmps79, List.size_toArray, List.length_cons, List.length_nil, Nat.reduceAdd, Nat.reduceSub, Array.replicate_succ, Array.replicate_zero, List.push_toArray, List.append_toArray, List.nil_append, List.cons_append]
 unfold maxI at hcap
 gi_wp2
 gi_loopw [4] (fun p wr => ∃ (fr i : Nat), p = .int .i64 (fr : Int) ∧ fr ≤ xs.length ∧ (grp xs).drop i = grp (xs.drop fr) ∧ i ≤ (grp xs).length ∧ J i wr)
  (fun p _ => xs.length - natOf p)
 case atStart => exact ⟨0, 0, rfl, Nat.zero_le _, rfl, Nat.zero_le _, h0⟩
 case round =>
  obtain ⟨fr, i, rfl, hfr, hg, hil, hJ⟩ := hrel
  by_cases hend : fr = xs.length
  ·subst hend
   have hlt : ((xs.length : Int) < (xs.length : Int)) = False := by simp
   gi_wp2
   go_end0
   rw [List.drop_length, grp_nil] at hg
   have hi : i = (grp xs).length := by
    have := congrArg List.length hg
    simp at this; omega
   subst hi
   exact ⟨⟨_, rfl⟩, .inl hJ⟩
  ·have hlt : (fr : Int) < (xs.length : Int) := by omega
   have hne : xs.drop fr ≠ [] := fun e => by have := congrArg List.length e; simp at this; omega
   have hp := hdn_pos hne
   have hle := hdn_le (xs.drop fr)
   rw [List.length_drop] at hle
   have hxne : xs ≠ [] := fun e => by subst e; simp at hne
   obtain rfl := ha hxne
   gi_wp2
   gi_loopw [5] (fun p wr => ∃ to : Nat, p = .int .i64 (to : Int) ∧ fr ≤ to ∧ to ≤ fr + hdn (xs.drop fr) ∧ J i wr) (fun p _ => xs.length - natOf p)
   case atStart => exact ⟨fr, rfl, Nat.le_refl _, Nat.le_add_right _ _, hJ⟩
   case round =>
    obtain ⟨to, rfl, h1, h2, hJ2⟩ := hrel
    have c2 := hC i _ hJ2 fr (by omega)
    by_cases hto : to < fr + hdn (xs.drop fr)
    ·have hk : kyAt xs to = kyAt xs fr := by
      have e1 := hdn_in (l := xs.drop fr) (i := to - fr) (by omega)
      rw [kyAt_drop, kyAt_drop, Nat.add_zero] at e1
      rw [← e1]; congr 1; omega
     have c1 := hC i _ hJ2 to (by omega)
     rw [hk] at c1
     have hlt2 : (to : Int) < (xs.length : Int) := by omega
     gi_wp2
     gi_region
     gi_wp2
     go_roundw
     case rel => exact ⟨to + 1, by simp, by omega, by omega, hJg _ _ _ hJ2 ((Go.Abs.Below.refl _ wr).drew)⟩
     case measure =>
      simp only [natOf]
      omega
    ·have hge := Nat.le_of_not_lt hto
     have hget : (grp xs)[i]? = some ((xs.drop fr).take (to - fr)) := by
      have e0 : to - fr = hdn (xs.drop fr) := by omega
      rw [e0]
      generalize xs.drop fr = ys at hg hne
      cases ys with
      | nil => exact absurd rfl hne
      | cons r rest =>
       rw [grp_cons] at hg
       have := congrArg (fun l => l[0]?) hg
       simpa using this
     have hnext : (grp xs).drop (i + 1) = grp (xs.drop to) := by
      have e0 : xs.drop to = (xs.drop fr).drop (hdn (xs.drop fr)) := by rw [List.drop_drop]; congr 1; omega
      rw [e0]
      generalize xs.drop fr = ys at hg hne
      cases ys with
      | nil => exact absurd rfl hne
      | cons r rest =>
       rw [grp_cons] at hg
       have := congrArg List.tail hg
       simpa using this
     have hil2 : i + 1 ≤ (grp xs).length := (List.getElem?_eq_some_iff.1 hget).1
     by_cases hlen2 : to < xs.length
     ·have c1 := hC i _ hJ2 to hlen2
      have hk : kyAt xs to ≠ kyAt xs fr := by
       have e1 := hdn_out (l := xs.drop fr) (by rw [List.length_drop]; omega)
       rw [kyAt_drop, kyAt_drop, Nat.add_zero] at e1
       rw [show to = fr + hdn (xs.drop fr) from by omega]; exact e1
      have hkb : (kyAt xs to == kyAt xs fr) = false := beq_false_of_ne hk
      have hlt2 : (to : Int) < (xs.length : Int) := by omega
      obtain ⟨fn, tmps, assign, body, hy, hR⟩ := hY i fr (to - fr) wr.drew hget (by omega) (by omega) (hJg _ _ _ hJ2 ((Go.Abs.Below.refl _ wr).drew))
      gi_wp2
      gi_region
      gi_wp2_with gi_in
      refine ⟨fun h => (by cases h), hR.mono ?_⟩
      rintro e W3 (⟨rfl, hJ3⟩ | ⟨rfl, hJ3⟩)
      ·gi_wp2
       go_roundw
       case rel => exact ⟨to, i + 1, rfl, by omega, hnext, hil2, hJ3⟩
       case measure =>
        simp only [natOf]
        omega
      ·gi_wp2
       refine bodyPost_ret (results_none rfl _ _ _) rfl ?_
       exact ⟨⟨_, rfl⟩, .inr hJ3⟩
     ·have hlt2 : decide ((to : Int) < (xs.length : Int)) = false := decide_eq_false (by omega)
      gi_wp2
      gi_quiet (fail)
      obtain ⟨fn, tmps, assign, body, hy, hR⟩ := hY i fr (to - fr) (wr.drewN nq) hget (by omega) (by omega) (hJg _ _ (wr.drewN nq) hJ2 (below_drewN _ _))
      gi_wp2_with gi_in
      refine ⟨fun h => (by cases h), hR.mono ?_⟩
      rintro e W3 (⟨rfl, hJ3⟩ | ⟨rfl, hJ3⟩)
      ·gi_wp2
       go_roundw
       case rel => exact ⟨to, i + 1, rfl, by omega, hnext, hil2, hJ3⟩
       case measure =>
        simp only [natOf]
        omega
      ·gi_wp2
       refine bodyPost_ret (results_none rfl _ _ _) rfl ?_
       exact ⟨⟨_, rfl⟩, .inr hJ3⟩
theorem yield_wide {r : Option Nat} {n n' : Nat} {P : Program} {l : Nat} {args : Array Value} {X : World} {R : Ending → World → Prop} (h : YieldAt (WF r) n P l args X R) : YieldAt Fence.wide n' P l args X R := by
 obtain ⟨fn, tmps, c, d, hr, h1, h2⟩ := h
 exact ⟨fn, tmps, c, d, hr, h1, fun c cs _ => h2 c cs (room_wide _)⟩
def keyedXs (x : List Rw) : List (List Rw) := grp x
abbrev rwS : Sh := .pair (.int .i64) (.pair (.int .i64) (.int .i64))
theorem rw_key {w : World} {M : Nat → Prop} {x : Rw} {cs : List Value} (h : RC w M rwS x cs) : cs[0]? = some (.int .i64 x.1) := by
 simp only [RC] at h
 obtain ⟨c, d, rfl, rfl, -⟩ := h
 rfl
theorem sp_keyed : SpecIp Tryz.prog 78 (.sl (.pair (.int .i64) (.pair (.int .i64) (.int .i64)))) (.sl (.pair (.int .i64) (.pair (.int .i64) (.int .i64)))) keyedXs := by
 intro M M' w x b0 q0 cs hMM hlt hc hrc r n l J Jx W hW hl hl' h0 hg hgx hp hy
 simp only [RC] at hrc
 obtain ⟨a, cap, rfl, hlen, hcap, hrow⟩ := hrc
 have hcell : W.cell? ⟨b0, q0, none⟩ = some (.slice a x.length cap) := by
  have h1 := hc 0 _ rfl
  rw [Nat.add_zero] at h1
  rw [← h1]
  refine World.cell?_of_block (w := w) (hW.block b0 ?_)
  obtain ⟨o, ho, -⟩ := cells_of_cell h1
  exact (Array.getElem?_eq_some_iff.1 ho).1
 obtain ⟨b, q, hab⟩ : ∃ b q, x ≠ [] → a = some ⟨b, q, none⟩ ∧ b < w.heap.size ∧ ¬ M' b ∧ RowAt (RC w M' rwS) rwS.n w b q x := by
  by_cases hx : x = []
  ·exact ⟨0, 0, fun h => absurd hx h⟩
  ·obtain ⟨b, q, h⟩ := hrow hx
   exact ⟨b, q, fun _ => h⟩
 have hWW := h0 W (Go.Abs.Below.refl _ _)
 have hkeep : ∀ i X, J W i X → ∀ c, c < w.heap.size → ¬ M' c → X.heap[c]? = w.heap[c]? := fun i X hJ c hc1 hc2 => by
  have h1 := (hp W i X hJ).2 c (Nat.lt_of_lt_of_le hc1 hW.size) (by omega) fun hm => hc2 (hMM c hm)
  rw [h1, hW.block c hc1]
 have key := keyed_in (n - 1) l b q cap x a (fun h => (hab h).1) hlen hcap (fun i X => J W i X) (fun X => Jx W X) (hg W) (fun i X hJ j hj => by
   have hne : x ≠ [] := fun e => by subst e; simp at hj
   obtain ⟨-, h1, h2, h3⟩ := hab hne
   obtain ⟨c, h4, h5⟩ := h3 j (nth (0, 0, 0) x j) (by simp [nth, hj])
   have h6 := h4 0 _ (rw_key h5)
   rw [Nat.add_zero] at h6
   exact (World.cell?_of_block (w := w) (hkeep i X hJ b h1 h2)).trans h6) (fun i fr len X hi hfl hlen0 hJ => by
   have hne : x ≠ [] := fun e => by subst e; simp at hfl; omega
   obtain ⟨-, h1, h2, h3⟩ := hab hne
   refine yield_wide (hy W i _ #[.slice (some ⟨b, q + fr * 3, none⟩) len (cap - fr)] X X hi hJ (Go.Abs.Below.refl _ _) ?_)
   simp only [RVs]
   refine ⟨_, _, rfl, ?_, rfl⟩
   simp only [Go.Abs.enc, RV, RC]
   have hl2 : ((x.drop fr).take len).length = len := by rw [List.length_take, List.length_drop]; omega
   refine ⟨_, cap - fr, by rw [hl2], by omega, by omega, fun _ => ⟨b, q + fr * 3, rfl, ?_, ?_, ?_⟩⟩
   ·have := (hp W i X hJ).1
    have := hW.size
    omega
   ·rintro ⟨-, h | h | h⟩
    ·have := hW.size; omega
    ·exact h2 h
    ·omega
   ·intro j y hj
    rw [List.getElem?_take] at hj
    split at hj
    ·rw [List.getElem?_drop] at hj
     obtain ⟨c, h4, h5⟩ := h3 (fr + j) y hj
     have kp : Keeps w M' X (fun b => b < X.heap.size ∧ (W.heap.size ≤ b ∨ M' b ∨ b = l)) := ⟨Nat.le_trans hW.size (hp W i X hJ).1, fun c hc1 hc2 => hkeep i X hJ c hc1 hc2, fun c hc1 hc2 => by
      rintro ⟨-, h | h | h⟩
      ·have := hW.size; omega
      ·exact hc2 h
      ·omega⟩
     refine ⟨c, ?_, RC.keeps kp h5⟩
     have h7 := kp.cells h1 h2 h4
     rwa [Nat.add_mul, ← Nat.add_assoc] at h7
    ·cases hj) W hWW
 have hin : CallsIn Fence.wide n Tryz.prog 78 #[.func (.yield l) #[] #[], .pointer (some ⟨b0, q0, none⟩)] W fun e W' => (∃ v, e = .returned v) ∧ (J W (grp x).length W' ∨ Jx W W') := by
  refine callsIn_of_wp Tryz.func78 rfl trivial ?_ rfl
  simp only [Tryz.ntmps78, List.size_toArray, List.length_cons, List.length_nil, Nat.reduceAdd, Nat.reduceSub, Array.replicate_succ, Array.replicate_zero, List.push_toArray, List.append_toArray, List.nil_append, List.cons_append]
  gi_wp2
  refine ⟨trivial, fun h => (by cases h), key.mono ?_⟩
  rintro e w' ⟨⟨v, rfl⟩, hJ⟩
  gi_wp2
  go_end0
  exact ⟨⟨_, rfl⟩, hJ⟩
 exact CallsIn.mono (F := WF r) hin fun e W' h => ⟨h.1, W, h.2⟩
theorem en_keyed : IEntOk Tryz.prog [] (mkIp 78 (.sl (.pair (.int .i64) (.pair (.int .i64) (.int .i64)))) (.sl (.pair (.int .i64) (.pair (.int .i64) (.int .i64)))) keyedXs) := entIp ⟨Tryz.f78, bodyOf Tryz.f78, by kernel_rfl, by kernel_rfl, rfl⟩ sp_keyed
end Go.Proofs.YtnieamciihdfpaaGreat
