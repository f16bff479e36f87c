/- The completion of an order: what the function comes to. -/
import Derived.Test.YtkijpiphgnnonaaDoorMac
import Derived.Test.YtkijpiphgnnonaaDoorMacP
import Derived.Test.YtkijpiphgnnonaaDoorDualS
import Derived.Test.YtkijpiphgnnonaaDoorKeepS
import Derived.Test.YtkijpiphgnnonaaDoorAbsMp
namespace Go.Proofs.YtkijpiphgnnonaaDoor
open Go.Abs Go.Pol
def rg (k : Nat) (f : Nat → Int) : List Int := (List.range k).map f
theorem rg_len (k : Nat) (f : Nat → Int) : (rg k f).length = k := by simp [rg]
theorem nth_rg {k : Nat} (f : Nat → Int) {i : Nat} (h : i < k) : nth 0 (rg k f) i = f i := by
  rw [nth_lt (by rw [rg_len]; exact h)]; simp [rg]
theorem rg_ext {k : Nat} {xs : List Int} {f : Nat → Int} (hl : xs.length = k) (h : ∀ i, i < k → nth 0 xs i = f i) : xs = rg k f :=
  List.ext_getElem (by rw [rg_len, hl]) fun i h1 h2 => by
    have := h i (by omega)
    rw [nth_lt h1] at this
    rw [this]; simp [rg]
theorem rg_set {k : Nat} (f : Nat → Int) {i : Nat} (h : i < k) (v : Int) : (rg k f).set i v = rg k fun r => if r = i then v else f r :=
  rg_ext (by rw [List.length_set, rg_len]) fun j hj => by
    rw [nth_set (by rw [rg_len]; exact h), nth_rg f hj]
    by_cases q : j = i
    · rw [if_pos q.symm, if_pos q]
    · rw [if_neg (fun e => q e.symm), if_neg q]
theorem rg_congr {k : Nat} {f g : Nat → Int} (h : ∀ i, i < k → f i = g i) : rg k f = rg k g := rg_ext (rg_len k f) fun i hi => by rw [nth_rg f hi, h i hi]
theorem rg_zero (k : Nat) : List.replicate k (0 : Int) = rg k fun _ => 0 := rg_ext (List.length_replicate ..) fun i hi => by
  rw [nth_lt (by rw [List.length_replicate]; exact hi)]; simp
def subB (a b : Int) : Bool := iandNot .u32 a b == 0
theorem subB_iff {a b : Int} (ha : W32 a) (hb : W32 b) : subB a b = true ↔ sbs a b := by
  have h := bad_le ha hb
  unfold subB sbs
  rw [beq_iff_eq]
  constructor
  · intro e i hi
    refine Classical.byContradiction fun hno => ?_
    have := h.2 ⟨i, hi, hno⟩
    rw [e] at this; cases this
  · intro hs
    refine Classical.byContradiction fun hno => ?_
    obtain ⟨k, h1, h2⟩ := h.1 (bne_iff_ne.2 hno)
    exact h2 (hs k h1)
abbrev cst (l : List (Int × Int)) : List Int := l.map (·.1)
theorem nth_cst {l : List (Int × Int)} {i : Nat} (h : i < l.length) : nth 0 (cst l) i = (nth ((0 : Int), (0 : Int)) l i).1 := by
  rw [nth_lt (by simpa using h), nth_lt h]; simp
/-- The table of what stands below what, as far as it is filled. -/
def tabM (cs : List Int) (i j : Nat) : List Int := rg cs.length fun r => if r < i then mkw cs.length (fun c => subB (nth 0 cs r) (nth 0 cs c)) else if r = i then mkw j (fun c => subB (nth 0 cs i) (nth 0 cs c)) else 0
theorem tabM_step {cs : List Int} {i j : Nat} (hi : i < cs.length) : tabM cs i (j + 1) = bif subB (nth 0 cs i) (nth 0 cs j) then (tabM cs i j).set i (ior .u32 (nth 0 (tabM cs i j) i) (Go.Abs.one j)) else tabM cs i j := by
  unfold tabM
  have e1 := nth_rg (k := cs.length) (fun r => if r < i then mkw cs.length (fun c => subB (nth 0 cs r) (nth 0 cs c)) else if r = i then mkw j (fun c => subB (nth 0 cs i) (nth 0 cs c)) else 0) hi
  rw [if_neg (by omega), if_pos rfl] at e1
  rw [e1]
  cases h : subB (nth 0 cs i) (nth 0 cs j) with
  | true =>
    rw [cond_true, rg_set _ hi]
    refine rg_congr fun r hr => ?_
    by_cases q : r < i
    · rw [if_pos q, if_neg (show ¬ r = i by omega), if_pos q]
    · by_cases q2 : r = i
      · rw [if_neg q, if_pos q2, if_pos q2, mkw_succ, h, cond_true]
      · rw [if_neg q, if_neg q2, if_neg q2, if_neg q, if_neg q2]
  | false =>
    rw [cond_false]
    refine rg_congr fun r hr => ?_
    rw [mkw_succ, h, cond_false]
theorem tabM_next (cs : List Int) (i : Nat) : tabM cs i cs.length = tabM cs (i + 1) 0 := rg_congr fun r hr => by
  by_cases q : r < i
  · rw [if_pos q, if_pos (show r < i + 1 by omega)]
  · by_cases q2 : r = i
    · rw [if_neg q, if_pos q2, if_pos (show r < i + 1 by omega), q2]
    · rw [if_neg q, if_neg q2, if_neg (show ¬ r < i + 1 by omega)]
      split <;> rfl
theorem tabM_zero (cs : List Int) : List.replicate cs.length (0 : Int) = tabM cs 0 0 := by
  rw [rg_zero]
  refine rg_congr fun r hr => ?_
  rw [if_neg (Nat.not_lt_zero _)]
  split <;> rfl
abbrev M1 : Type := Int × List (Int × Int × Int)
theorem k1n : noSl (.int .u32) = true := rfl
section
variable {m : Nat} {up : List Int}
theorem Complete_eq {N : Nat} (hN : 1000 ≤ N) (hw : WL up) (ho : Ord (m : Int) up) :
    D_polar_Complete N (((m : Int), up), ()) = some ((0, []), [], 1, ()) ∨
    ∃ (cs up' : List Int) (A : List Int), Mac up m cs up' ∧ A.length = m ∧ (∀ x, x < m → ∃ a : Nat, a < cs.length ∧ nth 0 A x = (a : Int) ∧ nth 0 cs a = dnw up m x) ∧
      D_polar_Complete N (((m : Int), up), ()) = some (((cs.length : Int), up'), A, 0, ()) := by
  have hl : up.length = m := by have := ho.len; simpa using this
  have hm : m ≤ 16 := by have := ho.h1; omega
  obtain ⟨e, k1, k2⟩ := Check_spec (N := N) (by omega) hw (m : Int)
  obtain rfl := k2.2 ho
  simp only [D_polar_Complete, polar_Complete_7, k1, Option.bind_some, bne_self_eq_false, cond_false]
  rcases concepts_eq hN hw (ctx_ord ho) with ⟨ws, -, -, -, h1⟩ | ⟨ws, l, hC, h1⟩
  · rw [h1]; exact .inl rfl
  rw [h1]
  simp only [Option.bind_some, bne_self_eq_false, cond_false]
  by_cases hbig : (l.length : Int) > 16
  · rw [d_true hbig]; exact .inl rfl
  rw [d_false hbig, cond_false]
  refine .inr ?_
  have hpm : (cst l).Perm ws := by
    have := hC.pm.map (·.1)
    rwa [List.map_map, show ((fun x : Int × Int => x.1) ∘ cpr up (m : Int)) = id from rfl, List.map_id] at this
  have hcl : (cst l).length = l.length := List.length_map ..
  have hlen : l.length ≤ 16 := by omega
  have hall : ∀ b, b ∈ cst l ↔ CL up m b := fun b => by
    rw [hpm.mem_iff, hC.all, hl]
  have hnd : (cst l).Nodup := hpm.nodup_iff.2 hC.nd
  have hcw : ∀ i, i < l.length → CL up m (nth 0 (cst l) i) := fun i hi => (hall _).1 (nth_mem (by rw [hcl]; exact hi))
  rw [show (decide ((0 : Int) ≤ (l.length : Int)) && (decide ((l.length : Int) ≤ (l.length : Int)) && decide ((l.length : Int) * 4 ≤ 281474976710656))) = true by simp only [Bool.and_eq_true, decide_eq_true_eq]; omega, cond_true]
  simp only [joinD, loopE, Int.toNat_natCast]
  refine ⟨cst l, tabM (cst l) (cst l).length 0, ?_⟩
  have hfin : ∀ d : M1, (∀ r, r < l.length → mpGet (.int .u32) (.int .i64) d (nth 0 (cst l) r) = (r : Int)) →
      polar_Complete_3 N (m : Int) up 0 d (tabM (cst l) (cst l).length 0) (l.length : Int) = some (((l.length : Int), tabM (cst l) (cst l).length 0), rg m (fun y => mpGet (.int .u32) (.int .i64) d (dnw up m y)), 0, ()) := fun d hd => by
    simp only [polar_Complete_3]
    rw [show (decide ((0 : Int) ≤ (m : Int)) && (decide ((m : Int) ≤ (m : Int)) && decide ((m : Int) * 8 ≤ 281474976710656))) = true by simp only [Bool.and_eq_true, decide_eq_true_eq]; omega, cond_true]
    simp only [joinD, loopE, Down_eq hw ho (show 40 ≤ N by omega), Option.bind_some, Int.toNat_natCast, rg_zero]
    have hdl : (colsS up (m : Int) up.length).length = m := by rw [colsS_len]; simp
    refine loopD_path (n := m) (st := fun x => ((x : Int), rg m fun y => if y < x then mpGet (.int .u32) (.int .i64) d (dnw up m y) else 0)) (fun x hx kn => ?_) (fun kn => ?_) (by omega)
    · simp only [polar_Complete_2, hdl, rg_len, lt_d hx, ge0_d, Bool.and_self, cond_true, Int.toNat_natCast, backE_eq, w64 (n := (x : Int) + 1) (by omega) (by omega), rg_set _ hx]
      congr 2
      refine rg_congr fun r hr => ?_
      by_cases q : r = x
      · rw [if_pos q, if_pos (by omega), q]
      · by_cases q2 : r < x
        · rw [if_neg q, if_pos q2, if_pos (by omega)]
        · rw [if_neg q, if_neg q2, if_neg (by omega)]
    · simp only [polar_Complete_2, hdl, lt_self, cond_false, polar_Complete_1]
      rw [rg_congr (g := fun y => mpGet (.int .u32) (.int .i64) d (dnw up m y)) fun r hr => if_pos hr]
  obtain ⟨s', ⟨d, rfl, hd⟩, e⟩ := loopD_inv (g := fun (s : Int × M1 × List Int) kn => polar_Complete_6 N (fun s => polar_Complete_3 N s.1 s.2.1 s.2.2.1 s.2.2.2.1 s.2.2.2.2.1 s.2.2.2.2.2) l l (l.length : Int) (m : Int) up 0 (l.length : Int) s.1 s.2.1 s.2.2 (backE (l, l, (l.length : Int), (m : Int), up, (0 : Int), (l.length : Int)) kn))
    (k := fun s => polar_Complete_3 N (m : Int) up 0 s.2.1 s.2.2 (l.length : Int)) l.length
    (fun i s => ∃ d : M1, s = ((i : Int), d, tabM (cst l) i 0) ∧ ∀ r, r < i → mpGet (.int .u32) (.int .i64) d (nth 0 (cst l) r) = (r : Int)) (N := N) (s := ((0 : Int), ((0 : Int), []), List.replicate l.length (0 : Int)))
    (by
      rintro i _ hi ⟨d, rfl, hd⟩
      refine ⟨_, ⟨mpPut (.int .u32) (.int .i64) d (nth 0 (cst l) i) (i : Int), rfl, fun r hr => ?_⟩, fun kn => ?_⟩
      · by_cases q : r = i
        · subst q; exact mput_get (k := .int .u32) (v := .int .i64) k1n d _ _
        · rw [mput_get_ne (k := .int .u32) (v := .int .i64) k1n d (fun e => q (nd_injI hnd (by omega) (by omega) e)) _]
          exact hd r (by omega)
      · simp only [polar_Complete_6, joinD, loopE, lt_d hi, ge0_d, Bool.and_self, cond_true, Int.toNat_natCast, ← nth_cst hi]
        generalize mpPut (.int .u32) (.int .i64) d (nth 0 (cst l) i) (i : Int) = d'
        rw [← tabM_next, hcl]
        refine loopD_path (n := l.length) (st := fun j => ((j : Int), tabM (cst l) i j)) (fun j hj kn2 => ?_) (fun kn2 => ?_) (by omega)
        · have htl : (tabM (cst l) i j).length = l.length := by unfold tabM; rw [rg_len, hcl]
          simp only [polar_Complete_5, lt_d hj, lt_d hi, htl, ge0_d, Bool.and_self, cond_true, Int.toNat_natCast, One_eq N j, Option.bind_some, backE_eq, w64 (n := (j : Int) + 1) (by omega) (by omega), ← nth_cst hj]
          rw [tabM_step (by omega)]
          show cond (subB (nth 0 (cst l) i) (nth 0 (cst l) j)) _ _ = _
          cases subB (nth 0 (cst l) i) (nth 0 (cst l) j) <;> rfl
        · simp only [polar_Complete_5, lt_self, cond_false, polar_Complete_4, backE_eq, w64 (n := (i : Int) + 1) (by omega) (by omega)]
          rfl)
    (by
      rintro _ ⟨d, rfl, hd⟩ kn
      simp only [polar_Complete_6, lt_self, cond_false])
    (by omega) ⟨((0 : Int), []), by rw [← hcl, tabM_zero]; rfl, fun r hr => absurd hr (Nat.not_lt_zero _)⟩
  rw [hcl] at hfin ⊢
  have e2 := e.trans (hfin d hd)
  refine ⟨_, ⟨hnd, hall, ?_, ?_, fun i j hi => ?_, by omega⟩, rg_len _ _, fun x hx => ?_, e2⟩
  · unfold tabM; rw [rg_len]
  · intro x hx
    obtain ⟨r, hr, rfl⟩ := List.mem_map.1 hx
    rw [hcl]
    split
    · exact W32.mkw _ _
    · split
      · exact W32.mkw _ _
      · exact W32.zero
  · rw [hcl] at hi
    show bt (nth 0 (tabM (cst l) l.length 0) i) j = true ↔ _
    unfold tabM
    rw [nth_rg _ (by omega), if_pos hi, bt_mkw (by omega), Bool.and_eq_true, decide_eq_true_eq]
    refine and_congr_right fun hj => subB_iff (hcw i hi).w (hcw j (by omega)).w
  · obtain ⟨a, h1, h2⟩ := List.getElem_of_mem ((hall _).2 (dn_cls hw ho hx))
    have h3 : nth 0 (cst l) a = dnw up m x := by rw [nth_lt h1]; exact h2
    exact ⟨a, by rw [hcl] at h1; exact h1, by rw [nth_rg _ hx, ← h3]; exact hd a (by rw [hcl] at h1; exact h1), h3⟩
end
end Go.Proofs.YtkijpiphgnnonaaDoor
