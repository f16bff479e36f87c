/- lattice.Sub: what comes of some elements. -/
import Derived.Test.YtdbjfdjpmoackaaDoorSub
import Derived.Test.YtdbjfdjpmoackaaDoorTableS
import Derived.Test.YtdbjfdjpmoackaaDoorKeepS
import Derived.Test.YtdbjfdjpmoackaaDoorAbsLat
namespace Go.Proofs.YtdbjfdjpmoackaaDoor
open Go.Abs
/-- Does a set have all joins and meets of its own? -/
def Clo (m : Nat) (J K : Nat → Nat → Nat) (S : Nat → Prop) : Prop := ∀ x y, x < m → y < m → S x → S y → S (J x y) ∧ S (K x y)
section
variable {N m : Nat} (hm : m ≤ 16) {up J M : List Int} {B T : Int} (hL : IsLat m up J M B T) {w : Int} (hw : W32 w) (hin : ∀ j, bt w j = true → j < m)
include hm hL hw hin
theorem sub19 {a : Nat} (ha : a < m) {s0 : Int} (h0 : W32 s0) :
    ∃ s, W32 s ∧ (∀ j, bt s0 j = true → bt s j = true) ∧ (∀ j, bt s j = true → bt s0 j = true ∨ ∃ b, bt w b = true ∧ (j = jo m J a b ∨ j = jo m M a b)) ∧ (∀ b, bt w b = true → bt s (jo m J a b) = true ∧ bt s (jo m M a b) = true) ∧
      ∀ k, lattice_Sub_19 N (m : Int) up J M B T (a : Int) s0 w k = k s := by
  unfold lattice_Sub_19
  have key := forD_invk (fun (k : Int → Option Rt_lattice_Sub) (y21 : Int) (s : Int) kn => lattice_Sub_17 N (lattice_Sub_18 N (m : Int) up J M B T (a : Int) y21 s (fun v70 => kn v70))) (fun k s => k s)
    (fun r s => W32 s ∧ (∀ j, bt s0 j = true → bt s j = true) ∧ (∀ j, bt s j = true → bt s0 j = true ∨ ∃ b, bt w b = true ∧ (j = jo m J a b ∨ j = jo m M a b)) ∧ (∀ b : Nat, bt w b = true → (b : Int) ∈ r ∨ bt s (jo m J a b) = true ∧ bt s (jo m M a b) = true) ∧ ∀ x ∈ r, ∃ b : Nat, x = (b : Int) ∧ bt w b = true)
    ?_ (eachXs (w, ())) s0 ⟨h0, fun _ h => h, fun _ h => .inl h, fun b hb => .inl ((mem_each hw).2 ⟨b, rfl, bt_lt hw hb, hb⟩), fun x hx => by obtain ⟨j, e, -, hb⟩ := (mem_each hw).1 hx; exact ⟨j, e, hb⟩⟩
  · obtain ⟨s, ⟨h1, h2, h3, h4, -⟩, e⟩ := key
    exact ⟨s, h1, h2, h3, fun b hb => (h4 b hb).elim (fun h => by cases h) id, e⟩
  · rintro x r s ⟨h1, h2, h3, h4, h5⟩
    obtain ⟨b, rfl, hb⟩ := h5 x (by simp)
    have hbm := hin b hb
    have hj := hL.lat.jlt a b ha hbm
    have hk := hL.lat.klt a b ha hbm
    have hbits : ∀ j, bt (ior .u32 s (ior .u32 (one (jo m J a b)) (one (jo m M a b)))) j = true ↔ bt s j = true ∨ j = jo m J a b ∨ j = jo m M a b := fun j => by
      rw [bt_ior h1 W32.ior, bt_ior (W32.one _) (W32.one _), bt_one (by omega), bt_one (by omega)]
      simp only [Bool.or_eq_true, decide_eq_true_eq]
    refine ⟨ior .u32 s (ior .u32 (one (jo m J a b)) (one (jo m M a b))), ⟨W32.ior, fun j hj => (hbits j).2 (.inl (h2 j hj)), fun j hj => ?_, fun b' hb' => ?_, fun x hx => h5 x (by simp [hx])⟩, fun k kn => ?_⟩
    · rcases (hbits j).1 hj with h | h
      · exact h3 j h
      · exact .inr ⟨b, hb, h⟩
    · rcases h4 b' hb' with h | h
      · rcases List.mem_cons.1 h with e | h
        · have : b' = b := by omega
          subst this
          exact .inr ⟨(hbits _).2 (.inr (.inl rfl)), (hbits _).2 (.inr (.inr rfl))⟩
        · exact .inl h
      · exact .inr ⟨(hbits _).2 (.inl h.1), (hbits _).2 (.inl h.2)⟩
    · simp only [lattice_Sub_17, lattice_Sub_18, tor_eq hL hm a b ha hbm, tand_eq hL hm a b ha hbm, Option.bind_some, One_eq N (jo m J a b), One_eq N (jo m M a b)]
theorem sub23 : ∃ s, W32 s ∧ (∀ j, bt w j = true → bt s j = true) ∧ (∀ j, bt s j = true → bt w j = true ∨ ∃ a b, bt w a = true ∧ bt w b = true ∧ (j = jo m J a b ∨ j = jo m M a b)) ∧ (∀ a b, bt w a = true → bt w b = true → bt s (jo m J a b) = true ∧ bt s (jo m M a b) = true) ∧
      ∀ k, lattice_Sub_23 N (m : Int) up J M B T w w k = k s := by
  unfold lattice_Sub_23
  have key := forD_invk (fun (k : Int → Option Rt_lattice_Sub) (y18 : Int) (s : Int) kn => lattice_Sub_15 N (lattice_Sub_22 N (m : Int) up J M B T w y18 s (fun v63 => kn v63))) (fun k s => k s)
    (fun r s => W32 s ∧ (∀ j, bt w j = true → bt s j = true) ∧ (∀ j, bt s j = true → bt w j = true ∨ ∃ a b, bt w a = true ∧ bt w b = true ∧ (j = jo m J a b ∨ j = jo m M a b)) ∧ (∀ a : Nat, bt w a = true → (a : Int) ∈ r ∨ ∀ b, bt w b = true → bt s (jo m J a b) = true ∧ bt s (jo m M a b) = true) ∧ ∀ x ∈ r, ∃ b : Nat, x = (b : Int) ∧ bt w b = true)
    ?_ (eachXs (w, ())) w ⟨hw, fun _ h => h, fun _ h => .inl h, fun b hb => .inl ((mem_each hw).2 ⟨b, rfl, bt_lt hw hb, hb⟩), fun x hx => by obtain ⟨j, e, -, hb⟩ := (mem_each hw).1 hx; exact ⟨j, e, hb⟩⟩
  · obtain ⟨s, ⟨h1, h2, h3, h4, -⟩, e⟩ := key
    exact ⟨s, h1, h2, h3, fun a b ha hb => (h4 a ha).elim (fun h => by cases h) fun h => h b hb, e⟩
  · rintro x r s ⟨h1, h2, h3, h4, h5⟩
    obtain ⟨a, rfl, ha⟩ := h5 x (by simp)
    obtain ⟨s', g1, g2, g3, g4, e⟩ := sub19 (N := N) hm hL hw hin (hin a ha) h1
    refine ⟨s', ⟨g1, fun j hj => g2 j (h2 j hj), fun j hj => ?_, fun a' ha' => ?_, fun x hx => h5 x (by simp [hx])⟩, fun k kn => ?_⟩
    · rcases g3 j hj with h | ⟨b, hb, h⟩
      · exact h3 j h
      · exact .inr ⟨a, b, ha, hb, h⟩
    · rcases h4 a' ha' with h | h
      · rcases List.mem_cons.1 h with e | h
        · have : a' = a := by omega
          subst this
          exact .inr g4
        · exact .inl h
      · exact .inr fun b hb => ⟨g2 _ (h b hb).1, g2 _ (h b hb).2⟩
    · simp only [lattice_Sub_15, lattice_Sub_22, lattice_Sub_21, lattice_Sub_20, lattice_Sub_16, Each_eq N w, Option.bind_some, e]
end
theorem sub31 {N m : Nat} (hN : 1000 ≤ N) (hm : m ≤ 16) {up J M : List Int} {B T : Int} (hL : IsLat m up J M B T) {w : Int} (hw : W32 w) (hin : ∀ j, bt w j = true → j < m) :
    ∃ s, W32 s ∧ (∀ j, bt s j = true → j < m) ∧ (∀ j, bt w j = true → bt s j = true) ∧ Clo m (jo m J) (jo m M) (fun j => bt s j = true) ∧ (∀ S : Nat → Prop, (∀ j, bt w j = true → S j) → Clo m (jo m J) (jo m M) S → ∀ j, bt s j = true → S j) ∧
      ∃ s', ∀ k, lattice_Sub_31 N (m : Int) up J M B T w k = k s s' := by
  unfold lattice_Sub_31
  have l := hL.lat
  have key := loopD_meask (fun (k : Int → Int → Option Rt_lattice_Sub) (s : Int × Int) kn => lattice_Sub_30 N (m : Int) up J M B T s.1 s.2 (fun v47 v48 => kn (v47, v48)) k) (fun k s => k s.1 s.2)
    (fun s => W32 s.1 ∧ (∀ j, bt s.1 j = true → j < m) ∧ (∀ j, bt w j = true → bt s.1 j = true) ∧ (s.2 = s.1 → Clo m (jo m J) (jo m M) (fun j => bt s.1 j = true)) ∧ ∀ S : Nat → Prop, (∀ j, bt w j = true → S j) → Clo m (jo m J) (jo m M) S → ∀ j, bt s.1 j = true → S j)
    (fun s => s.2 = s.1) (fun s => 2 * (32 - (els s.1).length) + if s.2 = s.1 then 0 else 1) ?_ N (w, 0) ⟨hw, hin, fun _ h => h, fun e x y _ _ hx _ => ?_, fun S h1 _ j hj => h1 j hj⟩ ?_
  · obtain ⟨⟨s, s'⟩, ⟨h1, h2, h3, h4, h5⟩, hf, e⟩ := key
    exact ⟨s, h1, h2, h3, h4 hf, h5, s', e⟩
  · rintro ⟨s, was⟩ ⟨h1, h2, h3, h4, h5⟩
    simp only at h1 h2 h3 h4 h5
    by_cases e : was = s
    · left
      subst e
      refine ⟨rfl, fun k kn => ?_⟩
      simp only [lattice_Sub_30, lattice_Sub_12, bne_self_eq_false, cond_false]
    · right
      obtain ⟨s', g1, g2, g3, g4, ge⟩ := sub23 (N := N) hm hL h1 h2
      have g5 : ∀ j, bt s' j = true → j < m := fun j hj => by
        rcases g3 j hj with h | ⟨a, b, ha, hb, rfl | rfl⟩
        · exact h2 j h
        · exact l.jlt a b (h2 a ha) (h2 b hb)
        · exact l.klt a b (h2 a ha) (h2 b hb)
      refine ⟨(s', s), ⟨g1, g5, fun j hj => g2 j (h3 j hj), fun hss x y hx hy bx hby => ?_, fun S q1 q2 j hj => ?_⟩, ?_, fun k kn => ?_⟩
      · simp only at hss bx hby ⊢
        subst hss
        exact g4 x y bx hby
      · rcases g3 j hj with h | ⟨a, b, ha, hb, rfl | rfl⟩
        · exact h5 S q1 q2 j h
        · exact (q2 a b (h2 a ha) (h2 b hb) (h5 S q1 q2 a ha) (h5 S q1 q2 b hb)).1
        · exact (q2 a b (h2 a ha) (h2 b hb) (h5 S q1 q2 a ha) (h5 S q1 q2 b hb)).2
      · simp only [if_neg e]
        by_cases e2 : s = s'
        · rw [if_pos e2, ← e2]; omega
        · rw [if_neg e2]
          have hlt : (els s).length < (els s').length := by
            unfold els
            refine Go.Abs.filter_lt (List.range 32) (fun x _ h => g2 x h) (Classical.byContradiction fun hn => e2 (bt_ext h1 g1 fun i hi => ?_))
            cases hs : bt s i with
            | true => exact (g2 i hs).symm
            | false =>
              cases hs' : bt s' i with
              | false => rfl
              | true => exact absurd ⟨i, List.mem_range.2 hi, hs', hs⟩ hn
          have : (els s').length ≤ 32 := by unfold els; exact Nat.le_trans (List.length_filter_le _ _) (by simp)
          omega
      · simp only [lattice_Sub_30, lattice_Sub_29, lattice_Sub_28, lattice_Sub_27, lattice_Sub_26, lattice_Sub_25, lattice_Sub_24, lattice_Sub_14, lattice_Sub_13, lattice_Sub_12, show (was != s) = true from bne_iff_ne.2 e, cond_true, Each_eq N s, Option.bind_some, ge]
  · simp only at e hx
    rw [← e, bt_zero] at hx
    cases hx
  · split <;> omega
theorem List_eq {N : Nat} {w : Int} (hw : W32 w) : D_sets_List_uint32 N (w, ()) = some ((els w).map fun (i : Nat) => (i : Int)) := by
  simp only [D_sets_List_uint32, sets_List_uint32_12, sets_List_uint32_11, sets_List_uint32_10, sets_List_uint32_8, sets_List_uint32_7, sets_List_uint32_3, sets_List_uint32_2, sets_List_uint32_1, Each_eq N w, Option.bind_some]
  unfold sets_List_uint32_6
  refine (forD_app hw (fun (j : Nat) => (j : Int)) 1000 (fun j hj hb s kn hs => ?_) [] (by simp)).trans ?_
  · simp only [sets_List_uint32_4, sets_List_uint32_5]
    rw [d_true (by simp; omega)]
    rfl
  · simp only [List.nil_append, sets_List_uint32_9]
theorem Sub_spec {N : Nat} {n : Int} {up gens : List Int} (hN : 1000 ≤ N) (hw : WL up) :
    (∃ e, e ≠ 0 ∧ D_lattice_Sub N ((n, up), gens, ()) = some ([], e, ())) ∨
    (∃ (m : Nat) (J M : List Int) (b t : Nat) (w : Int), n = (m : Int) ∧ gens.length ≤ 16 ∧ (∀ x ∈ gens, 0 ≤ x ∧ x < (m : Int)) ∧ Ord (m : Int) up ∧ IsLat m up J M (b : Int) (t : Int) ∧ D_lattice_Of N ((n, up), ()) = some ((((m : Int), up), (J, (M, ((b : Int), (t : Int))))), 0, ()) ∧
      W32 w ∧ (∀ j, bt w j = true → j < m) ∧ (∀ x ∈ gens, bt w x.toNat = true) ∧ Clo m (jo m J) (jo m M) (fun j => bt w j = true) ∧ (∀ S : Nat → Prop, (∀ x ∈ gens, S x.toNat) → Clo m (jo m J) (jo m M) S → ∀ j, bt w j = true → S j) ∧
      D_lattice_Sub N ((n, up), gens, ()) = some ((els w).map (fun (i : Nat) => (i : Int)), 0, ())) := by
  simp only [D_lattice_Sub, lattice_Sub_41, lattice_Sub_40, lattice_Sub_39, lattice_Sub_3, lattice_Sub_2, lattice_Sub_1]
  rcases LatOf_spec hN hw n with ⟨e, he, h1, -⟩ | ⟨m, J, M, B, T, rfl, ho, hL, h1⟩
  · exact .inl ⟨e, he, by simp only [h1, Option.bind_some, show (e != 0) = true from bne_iff_ne.2 he, cond_true]⟩
  obtain ⟨b, rfl⟩ : ∃ b : Nat, B = (b : Int) := ⟨B.toNat, by have := hL.b0; omega⟩
  obtain ⟨t, rfl⟩ : ∃ t : Nat, T = (t : Int) := ⟨T.toNat, by have := hL.t0; omega⟩
  have hm : m ≤ 16 := by have := ho.h1; omega
  simp only [h1, Option.bind_some, bne_self_eq_false, cond_false, lattice_Sub_38, lattice_Sub_4]
  by_cases hlen : (gens.length : Int) > 16
  · exact .inl ⟨1, by decide, by rw [d_true hlen]; rfl⟩
  have hlen2 : gens.length ≤ 16 := by omega
  rw [d_false hlen]
  simp only [cond_false, lattice_Sub_37, lattice_Sub_36, lattice_Sub_10, lattice_Sub_9, lattice_Sub_6, lattice_Sub_5]
  have h7 : ∀ (i : Nat) (v : Int), i < gens.length → ∀ kn k, lattice_Sub_7 N ((m : Int), up) gens (i : Int) v kn k = if 0 ≤ nth 0 gens i ∧ nth 0 gens i < (m : Int) then kn ((i : Int) + 1) (ior .u32 v (one (nth 0 gens i).toNat)) else some ([], 2, ()) := fun i v hi kn k => by
    simp only [lattice_Sub_7, lt_d hi, ge0_d, cond_true, Bool.and_self, Int.toNat_natCast, w64 (show -9223372036854775808 ≤ (i : Int) + 1 by omega) (show (i : Int) + 1 ≤ 9223372036854775807 by omega)]
    by_cases q1 : nth 0 gens i < 0
    · rw [d_true q1, if_neg (by omega)]; rfl
    · rw [d_false q1, cond_false]
      by_cases q2 : nth 0 gens i ≥ (m : Int)
      · rw [d_true q2, if_neg (by omega)]; rfl
      · rw [d_false q2, cond_false, if_pos (by omega)]
        obtain ⟨y, hy⟩ : ∃ y : Nat, nth 0 gens i = (y : Int) := ⟨(nth 0 gens i).toNat, by omega⟩
        rw [hy, One_eq N y, Option.bind_some, Int.toNat_natCast]
  by_cases hall : ∀ x ∈ gens, 0 ≤ x ∧ x < (m : Int)
  case neg =>
    refine .inl ⟨2, by decide, ?_⟩
    unfold lattice_Sub_8
    refine loopD_const (fun s => ∃ i : Nat, s.1 = (i : Int) ∧ i ≤ gens.length ∧ ∀ i', i' < i → 0 ≤ nth 0 gens i' ∧ nth 0 gens i' < (m : Int)) (fun s => gens.length - s.1.toNat) _ ?_ N _ ⟨0, rfl, Nat.zero_le _, fun i h => absurd h (Nat.not_lt_zero _)⟩ (by simp; omega)
    rintro ⟨s, v⟩ ⟨i, hs, hi, hok⟩ kn hkn
    simp only at hs
    subst hs
    have hil : i < gens.length := by
      rcases Nat.lt_or_ge i gens.length with h | h
      · exact h
      · refine absurd (fun x hx => ?_) hall
        obtain ⟨p, hp, rfl⟩ := mem_nth (z := (0 : Int)) hx
        exact hok p (by omega)
    rw [h7 i v hil]
    by_cases hb : 0 ≤ nth 0 gens i ∧ nth 0 gens i < (m : Int)
    · rw [if_pos hb]
      refine hkn (_, _) ⟨i + 1, rfl, by omega, fun i' h' => ?_⟩ (by simp; omega)
      by_cases e : i' = i
      · subst e; exact hb
      · exact hok i' (by omega)
    · rw [if_neg hb]
  have hall' : ∀ i, i < gens.length → 0 ≤ nth 0 gens i ∧ nth 0 gens i < (m : Int) := fun i hi => hall _ (nth_mem hi)
  have h8 : ∃ w, W32 w ∧ (∀ j : Nat, bt w j = true ↔ ∃ i, i < gens.length ∧ nth 0 gens i = (j : Int)) ∧ ∀ k, lattice_Sub_8 N ((m : Int), up) gens k = k w := by
    unfold lattice_Sub_8
    have key := loopD_invk (N := N) (fun (k : Int → Option Rt_lattice_Sub) (s : Int × Int) kn => lattice_Sub_7 N ((m : Int), up) gens s.1 s.2 (fun v10 v11 => kn (v10, v11)) k) (fun k s => k s.2) (s := (0, 0)) gens.length
      (fun i s => s.1 = (i : Int) ∧ W32 s.2 ∧ ∀ j : Nat, bt s.2 j = true ↔ ∃ i', i' < i ∧ nth 0 gens i' = (j : Int)) ?_ ?_ (by omega) ⟨rfl, W32.zero, fun j => by rw [bt_zero]; exact ⟨fun h => Bool.noConfusion h, fun ⟨i, h, _⟩ => absurd h (Nat.not_lt_zero _)⟩⟩
    · obtain ⟨⟨s, w⟩, ⟨-, h1, h2⟩, e⟩ := key
      exact ⟨w, h1, h2, e⟩
    · rintro i ⟨s, v⟩ hi ⟨hs, hv, hb⟩
      simp only at hs hv hb
      subst hs
      have hg := hall' i hi
      refine ⟨((i : Int) + 1, ior .u32 v (one (nth 0 gens i).toNat)), ⟨rfl, W32.ior, fun j => ?_⟩, fun k kn => by rw [h7 i v hi, if_pos hg]⟩
      rw [bt_ior hv (W32.one _), bt_one (by omega), Bool.or_eq_true, hb, decide_eq_true_eq]
      constructor
      · rintro (⟨i', q1, q2⟩ | q)
        · exact ⟨i', by omega, q2⟩
        · exact ⟨i, by omega, by omega⟩
      · rintro ⟨i', q1, q2⟩
        by_cases e : i' = i
        · subst e; exact .inr (by omega)
        · exact .inl ⟨i', by omega, q2⟩
    · rintro ⟨s, v⟩ ⟨hs, -⟩ k kn
      simp only at hs
      subst hs
      simp only [lattice_Sub_7, lt_self, cond_false]
  obtain ⟨w0, a1, a2, a3⟩ := h8
  obtain ⟨w, b1, b2, b3, b4, b5, w', b6⟩ := sub31 (N := N) hN hm hL a1 fun j hj => by
    obtain ⟨i, hi, e⟩ := (a2 j).1 hj
    have := hall' i hi
    omega
  refine .inr ⟨m, J, M, b, t, w, rfl, hlen2, hall, ho, hL, rfl, b1, b2, fun x hx => b3 _ ?_, b4, fun S q1 q2 j hj => b5 S (fun j hj => ?_) q2 j hj, ?_⟩
  · obtain ⟨i, hi, e⟩ := mem_nth (z := (0 : Int)) hx
    have := hall x hx
    exact (a2 _).2 ⟨i, hi, by omega⟩
  · obtain ⟨i, hi, e⟩ := (a2 j).1 hj
    have := q1 _ (nth_mem (z := (0 : Int)) hi)
    rw [e, Int.toNat_natCast] at this
    exact this
  · simp only [a3, lattice_Sub_35, lattice_Sub_34, lattice_Sub_33, lattice_Sub_32, lattice_Sub_11, b6, List_eq b1, Option.bind_some]
end Go.Proofs.YtdbjfdjpmoackaaDoor
