/- lattice.Kind: what a lattice is. -/
import Derived.Test.YtdbjfdjpmoackaaDoorKind
import Derived.Test.YtdbjfdjpmoackaaDoorLatticeS
import Derived.Test.YtdbjfdjpmoackaaDoorAbsLat
namespace Go.Proofs.YtdbjfdjpmoackaaDoor
open Go.Abs
theorem wrap_at2 {m a b : Nat} (hm : m ≤ 16) (ha : a < m) (hb : b < m) : IntKind.i64.wrap (IntKind.i64.wrap ((a : Int) * (m : Int)) + (b : Int)) = ((a * m + b : Nat) : Int) := by
  have h1 := at_lt ha hb
  have : m * m ≤ 16 * 16 := Nat.mul_le_mul hm hm
  rw [← Int.natCast_mul, w64 (n := ((a * m : Nat) : Int)) (by omega) (by omega), w64 (by omega) (by omega)]
  omega
section
variable {N m : Nat} {up J M : List Int} {B T : Int} (h : IsLat m up J M B T) (hm : m ≤ 16)
include h hm
theorem tor_eq (a b : Nat) (ha : a < m) (hb : b < m) : D_lattice_Table_Or N ((((m : Int), up), (J, (M, (B, T)))), (a : Int), (b : Int), ()) = some (((jo m J a b : Nat) : Int), ()) := by
  have h1 := at_lt ha hb
  have h2 := h.jl
  simp only [D_lattice_Table_Or, lattice_Table_Or_1, wrap_at2 hm ha hb, ge0_d, lt_d (show a * m + b < J.length by omega), Bool.and_self, cond_true, Int.toNat_natCast, h.jn a b ha hb]
theorem tand_eq (a b : Nat) (ha : a < m) (hb : b < m) : D_lattice_Table_And N ((((m : Int), up), (J, (M, (B, T)))), (a : Int), (b : Int), ()) = some (((jo m M a b : Nat) : Int), ()) := by
  have h1 := at_lt ha hb
  have h2 := h.ml
  simp only [D_lattice_Table_And, lattice_Table_And_1, wrap_at2 hm ha hb, ge0_d, lt_d (show a * m + b < M.length by omega), Bool.and_self, cond_true, Int.toNat_natCast, h.mn a b ha hb]
end
theorem tunder_eq {N m : Nat} {up J M : List Int} {B T : Int} (hw : WL up) (hl : up.length = m) (a b : Nat) (ha : a < m) : D_lattice_Table_Under N ((((m : Int), up), (J, (M, (B, T)))), (a : Int), (b : Int), ()) = some (bt (nth 0 up a) b, ()) := by
  simp only [D_lattice_Table_Under, lattice_Table_Under_1, ge0_d, lt_d (show a < up.length by omega), Bool.and_self, cond_true, Int.toNat_natCast, Has_eq N (hw.nth a) b, Option.bind_some]
theorem mem_three {m : Nat} {up J M : List Int} {B T : Int} {x : Int × Int × Int} : x ∈ threeXs ((((m : Int), up), (J, (M, (B, T)))), ()) ↔ ∃ a b c : Nat, a < m ∧ b < m ∧ c < m ∧ x = ((a : Int), (b : Int), (c : Int)) := by
  unfold threeXs
  simp only [Int.toNat_natCast]
  exact mem_threeL
theorem threeOk_eq {m : Nat} (hm : m ≤ 16) {up J M : List Int} {B T : Int} : threeOk ((((m : Int), up), (J, (M, (B, T)))), ()) = true := by
  have : (m : Int) < 40 := by omega
  simp only [threeOk, this, decide_true]
/-- Has each element a complement? -/
def Compl (m : Nat) (J K : Nat → Nat → Nat) (b t : Nat) : Prop := ∀ a, a < m → ∃ c, c < m ∧ J a c = t ∧ K a c = b
theorem Kind_spec {N : Nat} (hN : 1000 ≤ N) {up : List Int} (hw : WL up) {m : Nat} (ho : Ord (m : Int) up) {J M : List Int} {b t : Nat} (hL : IsLat m up J M (b : Int) (t : Int))
    (hD : D_lattice_Of N (((m : Int), up), ()) = some ((((m : Int), up), (J, (M, ((b : Int), (t : Int))))), 0, ())) :
    ∃ (di mo co : Bool) (A B C : Int), D_lattice_Kind N (((m : Int), up), ()) = some ((di, (mo, (co, (A, (B, C))))), 0, ()) ∧ (di = true ↔ Dist m (jo m J) (jo m M)) ∧ (mo = true ↔ Modu m (le up) (jo m J) (jo m M)) ∧ (co = true ↔ Compl m (jo m J) (jo m M) b t) := by
  have hm : m ≤ 16 := by have := ho.h1; omega
  have hlu : up.length = m := by have := ho.len; omega
  have l := hL.lat
  have hbl := l.blt
  have htl := l.tlt
  simp only [Int.toNat_natCast] at hbl htl
  have hj := l.jlt
  have hk := l.klt
  have hok : threeOk ((((m : Int), up), (J, (M, ((b : Int), (t : Int))))), ()) = true := threeOk_eq hm
  -- the third part
  have h24 : ∀ a, a < m → ∃ has : Bool, (has = true ↔ ∃ c, c < m ∧ jo m J a c = t ∧ jo m M a c = b) ∧ ∀ k, lattice_Kind_24 N (m : Int) up J M (b : Int) (t : Int) (a : Int) k = k has := fun a ha => by
    unfold lattice_Kind_24
    have key := loopD_invk (N := N) (fun (k : Bool → Option Rt_lattice_Kind) (s : Bool × Int) kn => lattice_Kind_23 N (m : Int) up J M (b : Int) (t : Int) (a : Int) s.1 s.2 (fun v40 v41 => kn (v40, v41)) k) (fun k s => k s.1) (s := (false, 0)) m
      (fun i s => s.2 = (i : Int) ∧ (s.1 = true ↔ ∃ c, c < i ∧ jo m J a c = t ∧ jo m M a c = b)) ?_ ?_ (by omega) ⟨rfl, fun h => Bool.noConfusion h, fun ⟨c, h, _⟩ => absurd h (Nat.not_lt_zero _)⟩
    · obtain ⟨⟨has, s⟩, ⟨-, h1⟩, h2⟩ := key
      exact ⟨has, h1, h2⟩
    · rintro c ⟨v, s⟩ hc ⟨hs, hI⟩
      simp only at hs hI
      subst hs
      have hsucc : ∀ v' : Bool, (v' = true ↔ v = true ∨ jo m J a c = t ∧ jo m M a c = b) → (v' = true ↔ ∃ c', c' < c + 1 ∧ jo m J a c' = t ∧ jo m M a c' = b) := fun v' hv' => by
        rw [hv', hI]
        constructor
        · rintro (⟨c', h1, h2⟩ | h)
          · exact ⟨c', by omega, h2⟩
          · exact ⟨c, by omega, h⟩
        · rintro ⟨c', h1, h2⟩
          by_cases e : c' = c
          · subst e; exact .inr h2
          · exact .inl ⟨c', by omega, h2⟩
      cases v with
      | true =>
        exact ⟨(true, (c : Int) + 1), ⟨rfl, hsucc true (by simp)⟩, fun k kn => by simp only [lattice_Kind_23, lt_d hc, cond_true, w1 hm hc]⟩
      | false =>
        by_cases e1 : jo m J a c = t
        · refine ⟨(((jo m M a c : Nat) : Int) == (b : Int), (c : Int) + 1), ⟨rfl, hsucc _ ?_⟩, fun k kn => ?_⟩
          · rw [beq_iff_eq, Int.ofNat_inj]; simp [e1]
          · simp only [lattice_Kind_23, lt_d hc, cond_true, cond_false, tor_eq hL hm a c ha hc, tand_eq hL hm a c ha hc, Option.bind_some, e1, beq_self_eq_true, w1 hm hc]
        · refine ⟨(false, (c : Int) + 1), ⟨rfl, hsucc _ (by simp [e1])⟩, fun k kn => ?_⟩
          simp only [lattice_Kind_23, lt_d hc, cond_true, cond_false, tor_eq hL hm a c ha hc, Option.bind_some, show (((jo m J a c : Nat) : Int) == (t : Int)) = false from beq_false_of_ne (by omega), w1 hm hc]
    · rintro ⟨v, s⟩ ⟨hs, -⟩ k kn
      simp only at hs
      subst hs
      simp only [lattice_Kind_23, lt_self, cond_false]
  have h36 : ∃ co : Bool, (co = true ↔ Compl m (jo m J) (jo m M) b t) ∧ ∀ k, lattice_Kind_36 N (m : Int) up J M (b : Int) (t : Int) k = k co := by
    unfold lattice_Kind_36
    have key := loopD_invk (N := N) (fun (k : Bool → Option Rt_lattice_Kind) (s : Int × Bool) kn => lattice_Kind_35 N (m : Int) up J M (b : Int) (t : Int) s.1 s.2 (fun v36 v37 => kn (v36, v37)) k) (fun k s => k s.2) (s := (0, true)) m
      (fun i s => s.1 = (i : Int) ∧ (s.2 = true ↔ ∀ a, a < i → ∃ c, c < m ∧ jo m J a c = t ∧ jo m M a c = b)) ?_ ?_ (by omega) ⟨rfl, fun _ a h => absurd h (Nat.not_lt_zero _), fun _ => rfl⟩
    · obtain ⟨⟨s, co⟩, ⟨-, h1⟩, h2⟩ := key
      exact ⟨co, h1, h2⟩
    · rintro a ⟨s, v⟩ ha ⟨hs, hI⟩
      simp only at hs hI
      subst hs
      obtain ⟨has, g1, g2⟩ := h24 a ha
      refine ⟨((a : Int) + 1, v && has), ⟨rfl, ?_⟩, fun k kn => ?_⟩
      · rw [Bool.and_eq_true, hI, g1]
        constructor
        · rintro ⟨e1, e2⟩ a' h'
          by_cases e : a' = a
          · subst e; exact e2
          · exact e1 a' (by omega)
        · exact fun e => ⟨fun a' h' => e a' (by omega), e a (by omega)⟩
      · simp only [lattice_Kind_35, lattice_Kind_34, lattice_Kind_33, lattice_Kind_32, lattice_Kind_31, lattice_Kind_30, lattice_Kind_29, lattice_Kind_28, lattice_Kind_27, lattice_Kind_26, lattice_Kind_25, lattice_Kind_22, lattice_Kind_21, lattice_Kind_20, lattice_Kind_19, lattice_Kind_18, lt_d ha, cond_true, g2, w1 hm ha]
        cases v <;> rfl
    · rintro ⟨s, v⟩ ⟨hs, -⟩ k kn
      simp only at hs
      subst hs
      simp only [lattice_Kind_35, lattice_Kind_34, lattice_Kind_19, lattice_Kind_18, lt_self, cond_false]
  -- the second
  have h13 : ∀ a c d, a < m → c < m → d < m → ∀ kn k, lattice_Kind_12 N (lattice_Kind_13 N (m : Int) up J M (b : Int) (t : Int) ((a : Int), (c : Int), (d : Int)) kn k) =
      if le up a d ∧ jo m J a (jo m M c d) ≠ jo m M (jo m J a c) d then k false else kn := fun a c d ha hc hd kn k => by
    simp only [lattice_Kind_12, lattice_Kind_13, tunder_eq hw hlu a d ha, Option.bind_some]
    by_cases e : le up a d
    · rw [show bt (nth 0 up a) d = true from e, cond_true]
      simp only [tor_eq hL hm, tand_eq hL hm, ha, hc, hd, hj, hk, Option.bind_some]
      by_cases e2 : jo m J a (jo m M c d) = jo m M (jo m J a c) d
      · rw [if_neg (fun h => h.2 e2), e2, bne_self_eq_false]; rfl
      · rw [if_pos ⟨e, e2⟩, show ((((jo m J a (jo m M c d)) : Nat) : Int) != ((jo m M (jo m J a c) d : Nat) : Int)) = true from bne_iff_ne.2 (by omega)]; rfl
    · rw [if_neg (fun h => e h.1), show bt (nth 0 up a) d = false from Bool.eq_false_iff.2 e]; rfl
  have h14 : ∃ mo : Bool, (mo = true ↔ Modu m (le up) (jo m J) (jo m M)) ∧ ∀ k, lattice_Kind_14 N (m : Int) up J M (b : Int) (t : Int) k = k mo := by
    by_cases hmo : Modu m (le up) (jo m J) (jo m M)
    · refine ⟨true, ⟨fun _ => hmo, fun _ => rfl⟩, fun k => ?_⟩
      unfold lattice_Kind_14
      rw [hok, cond_true]
      refine forD_pass _ fun x hx kn => ?_
      obtain ⟨a, c, d, ha, hc, hd, rfl⟩ := mem_three.1 hx
      rw [h13 a c d ha hc hd, if_neg (fun h => h.2 (hmo a c d ha hc hd h.1))]
    · refine ⟨false, ⟨fun h => Bool.noConfusion h, fun h => absurd h hmo⟩, fun k => ?_⟩
      unfold lattice_Kind_14
      rw [hok, cond_true]
      refine forD_hit (fun x => ∃ a c d : Nat, x = ((a : Int), (c : Int), (d : Int)) ∧ le up a d ∧ jo m J a (jo m M c d) ≠ jo m M (jo m J a c) d) _ (fun x hx hb kn => ?_) (fun x hx hb kn => ?_) ?_
      · obtain ⟨a, c, d, ha, hc, hd, rfl⟩ := mem_three.1 hx
        rw [h13 a c d ha hc hd]
        obtain ⟨a', c', d', e, e2⟩ := hb
        simp only [Prod.mk.injEq, Int.ofNat_inj] at e
        obtain ⟨rfl, rfl, rfl⟩ := e
        exact if_pos e2
      · obtain ⟨a, c, d, ha, hc, hd, rfl⟩ := mem_three.1 hx
        rw [h13 a c d ha hc hd]
        exact if_neg fun h => hb ⟨a, c, d, rfl, h⟩
      · refine Classical.byContradiction fun hn => hmo fun a c d ha hc hd had => Classical.byContradiction fun hne => hn ⟨_, mem_three.2 ⟨a, c, d, ha, hc, hd, rfl⟩, a, c, d, rfl, had, hne⟩
  -- the first
  have h7 : ∀ a c d, a < m → c < m → d < m → ∀ kn k, lattice_Kind_6 N (lattice_Kind_7 N (m : Int) up J M (b : Int) (t : Int) ((a : Int), (c : Int), (d : Int)) kn k) =
      if jo m M a (jo m J c d) = jo m J (jo m M a c) (jo m M a d) then kn else k false (a : Int) (c : Int) (d : Int) := fun a c d ha hc hd kn k => by
    simp only [lattice_Kind_6, lattice_Kind_7, tor_eq hL hm, tand_eq hL hm, ha, hc, hd, hj, hk, Option.bind_some]
    by_cases e2 : jo m M a (jo m J c d) = jo m J (jo m M a c) (jo m M a d)
    · rw [if_pos e2, e2, bne_self_eq_false]; rfl
    · rw [if_neg e2, show ((((jo m M a (jo m J c d)) : Nat) : Int) != ((jo m J (jo m M a c) (jo m M a d) : Nat) : Int)) = true from bne_iff_ne.2 (by omega)]; rfl
  have h8 : ∃ (di : Bool) (A B C : Int), (di = true ↔ Dist m (jo m J) (jo m M)) ∧ ∀ k, lattice_Kind_8 N (m : Int) up J M (b : Int) (t : Int) k = k di A B C := by
    by_cases hdi : Dist m (jo m J) (jo m M)
    · refine ⟨true, 0, 0, 0, ⟨fun _ => hdi, fun _ => rfl⟩, fun k => ?_⟩
      unfold lattice_Kind_8
      rw [hok, cond_true]
      refine forD_pass _ fun x hx kn => ?_
      obtain ⟨a, c, d, ha, hc, hd, rfl⟩ := mem_three.1 hx
      rw [h7 a c d ha hc hd, if_pos (hdi a c d ha hc hd)]
    · have key : ∃ x ∈ threeXs ((((m : Int), up), (J, (M, ((b : Int), (t : Int))))), ()), ∀ k, lattice_Kind_8 N (m : Int) up J M (b : Int) (t : Int) k = k false x.1 x.2.1 x.2.2 := by
        have hex : ∃ x ∈ threeXs ((((m : Int), up), (J, (M, ((b : Int), (t : Int))))), ()), ∃ a c d : Nat, x = ((a : Int), (c : Int), (d : Int)) ∧ jo m M a (jo m J c d) ≠ jo m J (jo m M a c) (jo m M a d) :=
          Classical.byContradiction fun hn => hdi fun a c d ha hc hd => Classical.byContradiction fun hne => hn ⟨_, mem_three.2 ⟨a, c, d, ha, hc, hd, rfl⟩, a, c, d, rfl, hne⟩
        have hmem : ∀ x ∈ threeXs ((((m : Int), up), (J, (M, ((b : Int), (t : Int))))), ()), ∃ a b c : Nat, a < m ∧ b < m ∧ c < m ∧ x = ((a : Int), (b : Int), (c : Int)) := fun x hx => mem_three.1 hx
        unfold lattice_Kind_8
        simp only [hok, cond_true]
        generalize threeXs ((((m : Int), up), (J, (M, ((b : Int), (t : Int))))), ()) = xs at hex hmem
        induction xs with
        | nil => obtain ⟨x, hx, -⟩ := hex; cases hx
        | cons x xs ih =>
          obtain ⟨a, c, d, ha, hc, hd, rfl⟩ := hmem _ (List.mem_cons_self ..)
          by_cases e : jo m M a (jo m J c d) = jo m J (jo m M a c) (jo m M a d)
          · obtain ⟨y, hy, e2⟩ := ih (by
              obtain ⟨y, hy, a', c', d', e3, e4⟩ := hex
              rcases List.mem_cons.1 hy with rfl | hy
              · simp only [Prod.mk.injEq, Int.ofNat_inj] at e3
                obtain ⟨rfl, rfl, rfl⟩ := e3
                exact absurd e e4
              · exact ⟨y, hy, a', c', d', e3, e4⟩) (fun y hy => hmem y (List.mem_cons_of_mem _ hy))
            refine ⟨y, List.mem_cons_of_mem _ hy, fun k => ?_⟩
            rw [forD_cons, h7 a c d ha hc hd, if_pos e]
            exact e2 k
          · refine ⟨_, List.mem_cons_self .., fun k => ?_⟩
            rw [forD_cons, h7 a c d ha hc hd, if_neg e]
      obtain ⟨x, -, h⟩ := key
      exact ⟨false, x.1, x.2.1, x.2.2, ⟨fun h => Bool.noConfusion h, fun h => absurd h hdi⟩, h⟩
  obtain ⟨di, A, B, C, d1, d2⟩ := h8
  obtain ⟨mo, m1, m2⟩ := h14
  obtain ⟨co, c1, c2⟩ := h36
  refine ⟨di, mo, co, A, B, C, ?_, d1, m1, c1⟩
  simp only [D_lattice_Kind, lattice_Kind_46, lattice_Kind_45, lattice_Kind_44, lattice_Kind_43, lattice_Kind_42, lattice_Kind_41, lattice_Kind_40, lattice_Kind_39, lattice_Kind_38, lattice_Kind_37, lattice_Kind_17, lattice_Kind_16, lattice_Kind_15, lattice_Kind_11, lattice_Kind_10, lattice_Kind_9, lattice_Kind_5, lattice_Kind_4, lattice_Kind_3, lattice_Kind_2, lattice_Kind_1,
    hD, Option.bind_some, bne_self_eq_false, cond_false, d2, m2, c2]
theorem Kind_err {N : Nat} {n : Int} {up : List Int} {e : Int} (he : e ≠ 0) (hD : D_lattice_Of N ((n, up), ()) = some (zeroT, e, ())) : D_lattice_Kind N ((n, up), ()) = some ((false, (false, (false, (0, (0, 0))))), e, ()) := by
  simp only [D_lattice_Kind, lattice_Kind_46, lattice_Kind_45, lattice_Kind_44, lattice_Kind_3, lattice_Kind_2, lattice_Kind_1, hD, Option.bind_some, show (e != 0) = true from bne_iff_ne.2 he, cond_true]
end Go.Proofs.YtdbjfdjpmoackaaDoor
