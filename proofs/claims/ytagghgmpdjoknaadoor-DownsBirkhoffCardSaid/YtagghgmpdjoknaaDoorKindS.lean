/- lattice.Kind: what a lattice is. -/
import Derived.Test.YtagghgmpdjoknaaDoorKind
import Derived.Test.YtagghgmpdjoknaaDoorTableS
import Derived.Test.YtagghgmpdjoknaaDoorAbsLat
namespace Go.Proofs.YtagghgmpdjoknaaDoor
open Go.Abs
theorem mem_three {m : Nat} {up J M : List Int} {B T : Int} {x : Int × Int × Int} : x ∈ threeXs ((((m : Int), up), (J, (M, (B, T)))), ()) ↔ ∃ a b c : Nat, a < m ∧ b < m ∧ c < m ∧ x = ((a : Int), (b : Int), (c : Int)) := by
  unfold threeXs
  simp only [Int.toNat_natCast]
  exact mem_threeL
theorem threeOk_eq {m : Nat} (hm : m ≤ 16) {up J M : List Int} {B T : Int} : threeOk ((((m : Int), up), (J, (M, (B, T)))), ()) = true := by
  have : (m : Int) < 40 := by omega
  simp only [threeOk, this, decide_true]
theorem loopD_to {R S : Type} {g : S → (S → Option R) → Option R} {r : Option R} (n : Nat) (I : Nat → S → Prop) (h2 : ∀ i s, i < n → I i s → ∃ s', I (i + 1) s' ∧ ∀ kn, g s kn = kn s') (h3 : ∀ s, I n s → ∀ kn, g s kn = r) {N : Nat} (hN : n < N) {s : S} (h0 : I 0 s) : loopD g N s = r := by
  obtain ⟨s', -, h⟩ := loopD_inv n I (k := fun _ => r) h2 h3 hN h0
  exact h
/-- Has each element a complement? -/
def Compl (m : Nat) (J K : Nat → Nat → Nat) (b t : Nat) : Prop := ∀ a, a < m → ∃ c, c < m ∧ J a c = t ∧ K a c = b
theorem Kind_spec {N : Nat} (hN : 1000 ≤ N) {up : List Int} (hw : WL up) {m : Nat} (ho : Ord (m : Int) up) {J M : List Int} {b t : Nat} (hL : IsLat m up J M (b : Int) (t : Int))
    (hD : D_lattice_Of N (((m : Int), up), ()) = some ((((m : Int), up), (J, (M, ((b : Int), (t : Int))))), 0, ())) :
    ∃ (di mo co : Bool) (A B C : Int), D_lattice_Kind N (((m : Int), up), ()) = some ((di, (mo, (co, (A, (B, C))))), 0, ()) ∧ (di = true ↔ Dist m (jo m J) (jo m M)) ∧ (mo = true ↔ Modu m (le up) (jo m J) (jo m M)) ∧ (co = true ↔ Compl m (jo m J) (jo m M) b t) := by
  have hm : m ≤ 16 := by have := ho.h1; omega
  have hlu : up.length = m := by have := ho.len; omega
  have l := hL.lat
  have hbl := l.blt
  have htl := l.tlt
  simp only [Int.toNat_natCast] at hbl htl
  have hj := l.jlt
  have hk := l.klt
  have hok : threeOk ((((m : Int), up), (J, (M, ((b : Int), (t : Int))))), ()) = true := threeOk_eq hm
  -- the third part
  have hin : ∀ (di mo co : Bool) (A B C : Int) (a : Nat), a < m → ∀ k, loopD (fun (s : Bool × Int) kn => lattice_Kind_4 N k (a : Int) (m : Int) (a : Int) (m : Int) (m : Int) up false false false 0 0 0 (m : Int) up J M (b : Int) (t : Int) di mo co A B C s.1 s.2 (backE ((a : Int), (m : Int), (a : Int), (m : Int), (m : Int), up, false, false, false, (0 : Int), (0 : Int), (0 : Int), (m : Int), up, J, M, (b : Int), (t : Int), di, mo, co, A, B, C) kn)) N (false, 0) =
      k (decide (∃ c, c < m ∧ jo m J a c = t ∧ jo m M a c = b), (m : Int), (a : Int), (m : Int), up, false, false, false, 0, 0, 0, (m : Int), up, J, M, (b : Int), (t : Int), di, mo, co, A, B, C) := fun di mo co A B C a ha k => by
    have key := loopD_inv (N := N) (g := fun (s : Bool × Int) kn => lattice_Kind_4 N k (a : Int) (m : Int) (a : Int) (m : Int) (m : Int) up false false false 0 0 0 (m : Int) up J M (b : Int) (t : Int) di mo co A B C s.1 s.2 (backE ((a : Int), (m : Int), (a : Int), (m : Int), (m : Int), up, false, false, false, (0 : Int), (0 : Int), (0 : Int), (m : Int), up, J, M, (b : Int), (t : Int), di, mo, co, A, B, C) kn)) (k := fun s => k (s.1, (m : Int), (a : Int), (m : Int), up, false, false, false, 0, 0, 0, (m : Int), up, J, M, (b : Int), (t : Int), di, mo, co, A, B, C)) (s := (false, 0)) m
      (fun i s => s.2 = (i : Int) ∧ (s.1 = true ↔ ∃ c, c < i ∧ jo m J a c = t ∧ jo m M a c = b)) ?_ ?_ (by omega) ⟨rfl, fun h => Bool.noConfusion h, fun ⟨c, h, _⟩ => absurd h (Nat.not_lt_zero _)⟩
    · obtain ⟨⟨has, s⟩, ⟨hs, h1⟩, h2⟩ := key
      rw [h2]
      simp only at h1
      rw [show has = decide (∃ c, c < m ∧ jo m J a c = t ∧ jo m M a c = b) from by rw [Bool.eq_iff_iff, decide_eq_true_eq]; exact h1]
    · rintro c ⟨v, s⟩ hc ⟨hs, hI⟩
      simp only at hs hI
      subst hs
      have hsucc : ∀ v' : Bool, (v' = true ↔ v = true ∨ jo m J a c = t ∧ jo m M a c = b) → (v' = true ↔ ∃ c', c' < c + 1 ∧ jo m J a c' = t ∧ jo m M a c' = b) := fun v' hv' => by
        rw [hv', hI]
        constructor
        · rintro (⟨c', h1, h2⟩ | h)
          · exact ⟨c', by omega, h2⟩
          · exact ⟨c, by omega, h⟩
        · rintro ⟨c', h1, h2⟩
          by_cases e : c' = c
          · subst e; exact .inr h2
          · exact .inl ⟨c', by omega, h2⟩
      cases v with
      | true =>
        exact ⟨(true, (c : Int) + 1), ⟨rfl, hsucc true (by simp)⟩, fun kn => by simp only [lattice_Kind_4, lt_d hc, cond_true, w1 hm hc, backE_eq]⟩
      | false =>
        by_cases e1 : jo m J a c = t
        · refine ⟨(((jo m M a c : Nat) : Int) == (b : Int), (c : Int) + 1), ⟨rfl, hsucc _ ?_⟩, fun kn => ?_⟩
          · rw [beq_iff_eq, Int.ofNat_inj]; simp [e1]
          · simp only [lattice_Kind_4, lt_d hc, cond_true, cond_false, tor_eq hL hm a c ha hc, tand_eq hL hm a c ha hc, Option.bind_some, e1, beq_self_eq_true, w1 hm hc, backE_eq]
        · refine ⟨(false, (c : Int) + 1), ⟨rfl, hsucc _ (by simp [e1])⟩, fun kn => ?_⟩
          simp only [lattice_Kind_4, lt_d hc, cond_true, cond_false, tor_eq hL hm a c ha hc, Option.bind_some, show (((jo m J a c : Nat) : Int) == (t : Int)) = false from beq_false_of_ne (by omega), w1 hm hc, backE_eq]
    · rintro ⟨v, s⟩ ⟨hs, -⟩ kn
      simp only at hs
      subst hs
      simp only [lattice_Kind_4, lt_self, cond_false]
  have h36 : ∀ (di mo : Bool) (A B C : Int), ∃ co : Bool, (co = true ↔ Compl m (jo m J) (jo m M) b t) ∧ lattice_Kind_6 N (m : Int) up false false false 0 0 0 (m : Int) up J M (b : Int) (t : Int) di mo true A B C = some ((di, (mo, (co, (A, (B, C))))), 0, ()) := fun di mo A B C => by
    simp only [lattice_Kind_6, joinD, loopE]
    obtain ⟨co, hco⟩ : ∃ co : Bool, co = true ↔ ∀ a, a < m → ∃ c, c < m ∧ jo m J a c = t ∧ jo m M a c = b := ⟨decide (∀ a, a < m → ∃ c, c < m ∧ jo m J a c = t ∧ jo m M a c = b), by rw [decide_eq_true_eq]⟩
    refine ⟨co, hco, loopD_to (N := N) m (fun i s => s.1 = (i : Int) ∧ (s.2 = true ↔ ∀ a, a < i → ∃ c, c < m ∧ jo m J a c = t ∧ jo m M a c = b)) ?_ ?_ (by omega) ⟨rfl, fun _ a h => absurd h (Nat.not_lt_zero _), fun _ => rfl⟩⟩
    · rintro a ⟨s, v⟩ ha ⟨hs, hI⟩
      simp only at hs hI
      subst hs
      refine ⟨((a : Int) + 1, v && decide (∃ c, c < m ∧ jo m J a c = t ∧ jo m M a c = b)), ⟨rfl, ?_⟩, fun kn => ?_⟩
      · rw [Bool.and_eq_true, hI, decide_eq_true_eq]
        constructor
        · rintro ⟨e1, e2⟩ a' h'
          by_cases e : a' = a
          · subst e; exact e2
          · exact e1 a' (by omega)
        · exact fun e => ⟨fun a' h' => e a' (by omega), e a (by omega)⟩
      · simp only [lattice_Kind_5, joinD, loopE, lt_d ha, cond_true]
        rw [hin di mo v A B C a ha]
        cases v <;> simp only [lattice_Kind_3, lattice_Kind_2, cond_true, cond_false, w1 hm ha, backE_eq, Bool.true_and, Bool.false_and]
    · rintro ⟨s, v⟩ ⟨hs, hv⟩ kn
      simp only at hs hv
      subst hs
      obtain rfl : v = co := by rw [Bool.eq_iff_iff, hv, hco]
      simp only [lattice_Kind_5, lt_self, cond_false, lattice_Kind_1]
  -- the second
  have h14 : ∀ (di : Bool) (A B C : Int), ∃ mo co : Bool, (mo = true ↔ Modu m (le up) (jo m J) (jo m M)) ∧ (co = true ↔ Compl m (jo m J) (jo m M) b t) ∧ lattice_Kind_8 N (m : Int) up false false false 0 0 0 (m : Int) up J M (b : Int) (t : Int) di true true A B C = some ((di, (mo, (co, (A, (B, C))))), 0, ()) := fun di A B C => by
    have body : ∀ a c d, a < m → c < m → d < m → ∀ k kn, lattice_Kind_7 N k (m : Int) up false false false 0 0 0 (m : Int) up J M (b : Int) (t : Int) di true true A B C kn ((a : Int), (c : Int), (d : Int)) =
        if le up a d ∧ jo m J a (jo m M c d) ≠ jo m M (jo m J a c) d then k ((m : Int), up, false, false, false, 0, 0, 0, (m : Int), up, J, M, (b : Int), (t : Int), di, false, true, A, B, C) else kn (((m : Int), up, false, false, false, 0, 0, 0, (m : Int), up, J, M, (b : Int), (t : Int), di, true, true, A, B, C), ()) := fun a c d ha hc hd k kn => by
      simp only [lattice_Kind_7, tunder_eq hw hlu a d ha, Option.bind_some]
      by_cases e : le up a d
      · rw [show bt (nth 0 up a) d = true from e, cond_true]
        simp only [tor_eq hL hm, tand_eq hL hm, ha, hc, hd, hj, hk, Option.bind_some]
        by_cases e2 : jo m J a (jo m M c d) = jo m M (jo m J a c) d
        · rw [if_neg (fun h => h.2 e2), e2, bne_self_eq_false]; rfl
        · rw [if_pos ⟨e, e2⟩, show ((((jo m J a (jo m M c d)) : Nat) : Int) != ((jo m M (jo m J a c) d : Nat) : Int)) = true from bne_iff_ne.2 (by omega)]; rfl
      · rw [if_neg (fun h => e h.1), show bt (nth 0 up a) d = false from Bool.eq_false_iff.2 e]; rfl
    by_cases hmo : Modu m (le up) (jo m J) (jo m M)
    · obtain ⟨co, c1, c2⟩ := h36 di true A B C
      refine ⟨true, co, ⟨fun _ => hmo, fun _ => rfl⟩, c1, ?_⟩
      simp only [lattice_Kind_8, joinD, forE, hok, cond_true]
      refine (forD_pass _ fun x hx kn => ?_).trans c2
      obtain ⟨a, c, d, ha, hc, hd, rfl⟩ := mem_three.1 hx
      rw [body a c d ha hc hd, if_neg (fun h => h.2 (hmo a c d ha hc hd h.1)), backE_eq]
    · obtain ⟨co, c1, c2⟩ := h36 di false A B C
      refine ⟨false, co, ⟨fun h => Bool.noConfusion h, fun h => absurd h hmo⟩, c1, ?_⟩
      simp only [lattice_Kind_8, joinD, forE, hok, cond_true]
      refine (forD_hit (fun x => ∃ a c d : Nat, x = ((a : Int), (c : Int), (d : Int)) ∧ le up a d ∧ jo m J a (jo m M c d) ≠ jo m M (jo m J a c) d) _ (fun x hx hb kn => ?_) (fun x hx hb kn => ?_) ?_).trans c2
      · obtain ⟨a, c, d, ha, hc, hd, rfl⟩ := mem_three.1 hx
        rw [body a c d ha hc hd]
        obtain ⟨a', c', d', e, e2⟩ := hb
        simp only [Prod.mk.injEq, Int.ofNat_inj] at e
        obtain ⟨rfl, rfl, rfl⟩ := e
        exact if_pos e2
      · obtain ⟨a, c, d, ha, hc, hd, rfl⟩ := mem_three.1 hx
        rw [body a c d ha hc hd]
        exact (if_neg fun h => hb ⟨a, c, d, rfl, h⟩).trans (backE_eq _ _ _)
      · refine Classical.byContradiction fun hn => hmo fun a c d ha hc hd had => Classical.byContradiction fun hne => hn ⟨_, mem_three.2 ⟨a, c, d, ha, hc, hd, rfl⟩, a, c, d, rfl, had, hne⟩
  -- the first
  have body : ∀ a c d, a < m → c < m → d < m → ∀ k kn, lattice_Kind_9 N k (m : Int) up false false false 0 0 0 (m : Int) up J M (b : Int) (t : Int) true true true 0 0 0 kn ((a : Int), (c : Int), (d : Int)) =
      if jo m M a (jo m J c d) = jo m J (jo m M a c) (jo m M a d) then kn (((m : Int), up, false, false, false, 0, 0, 0, (m : Int), up, J, M, (b : Int), (t : Int), true, true, true, 0, 0, 0), ()) else k ((m : Int), up, false, false, false, 0, 0, 0, (m : Int), up, J, M, (b : Int), (t : Int), false, true, true, (a : Int), (c : Int), (d : Int)) := fun a c d ha hc hd k kn => by
    simp only [lattice_Kind_9, tor_eq hL hm, tand_eq hL hm, ha, hc, hd, hj, hk, Option.bind_some]
    by_cases e2 : jo m M a (jo m J c d) = jo m J (jo m M a c) (jo m M a d)
    · rw [if_pos e2, e2, bne_self_eq_false]; rfl
    · rw [if_neg e2, show ((((jo m M a (jo m J c d)) : Nat) : Int) != ((jo m J (jo m M a c) (jo m M a d) : Nat) : Int)) = true from bne_iff_ne.2 (by omega)]; rfl
  by_cases hdi : Dist m (jo m J) (jo m M)
  · obtain ⟨mo, co, m1, c1, h⟩ := h14 true 0 0 0
    refine ⟨true, mo, co, 0, 0, 0, ?_, ⟨fun _ => hdi, fun _ => rfl⟩, m1, c1⟩
    simp only [D_lattice_Kind, lattice_Kind_10, hD, Option.bind_some, bne_self_eq_false, cond_false, joinD, forE, hok, cond_true]
    refine (forD_pass _ fun x hx kn => ?_).trans h
    obtain ⟨a, c, d, ha, hc, hd, rfl⟩ := mem_three.1 hx
    rw [body a c d ha hc hd, if_pos (hdi a c d ha hc hd), backE_eq]
  · have hex : ∃ x ∈ threeXs ((((m : Int), up), (J, (M, ((b : Int), (t : Int))))), ()), ∃ a c d : Nat, x = ((a : Int), (c : Int), (d : Int)) ∧ jo m M a (jo m J c d) ≠ jo m J (jo m M a c) (jo m M a d) :=
      Classical.byContradiction fun hn => hdi fun a c d ha hc hd => Classical.byContradiction fun hne => hn ⟨_, mem_three.2 ⟨a, c, d, ha, hc, hd, rfl⟩, a, c, d, rfl, hne⟩
    have key := forD_find (R := Rt_lattice_Kind) (f := fun (y : Int × Int × Int) (_ : Unit) kn => lattice_Kind_9 N (fun s => lattice_Kind_8 N s.1 s.2.1 s.2.2.1 s.2.2.2.1 s.2.2.2.2.1 s.2.2.2.2.2.1 s.2.2.2.2.2.2.1 s.2.2.2.2.2.2.2.1 s.2.2.2.2.2.2.2.2.1 s.2.2.2.2.2.2.2.2.2.1 s.2.2.2.2.2.2.2.2.2.2.1 s.2.2.2.2.2.2.2.2.2.2.2.1 s.2.2.2.2.2.2.2.2.2.2.2.2.1 s.2.2.2.2.2.2.2.2.2.2.2.2.2.1 s.2.2.2.2.2.2.2.2.2.2.2.2.2.2.1 s.2.2.2.2.2.2.2.2.2.2.2.2.2.2.2.1 s.2.2.2.2.2.2.2.2.2.2.2.2.2.2.2.2.1 s.2.2.2.2.2.2.2.2.2.2.2.2.2.2.2.2.2.1 s.2.2.2.2.2.2.2.2.2.2.2.2.2.2.2.2.2.2.1 s.2.2.2.2.2.2.2.2.2.2.2.2.2.2.2.2.2.2.2)
        (m : Int) up false false false 0 0 0 (m : Int) up J M (b : Int) (t : Int) true true true 0 0 0 (backE ((m : Int), up, false, false, false, 0, 0, 0, (m : Int), up, J, M, (b : Int), (t : Int), true, true, true, 0, 0, 0) kn) y)
      (k := fun _ => lattice_Kind_8 N (m : Int) up false false false 0 0 0 (m : Int) up J M (b : Int) (t : Int) true true true 0 0 0)
      (fun x => ∃ a c d : Nat, x = ((a : Int), (c : Int), (d : Int)) ∧ jo m M a (jo m J c d) ≠ jo m J (jo m M a c) (jo m M a d)) (fun x => lattice_Kind_8 N (m : Int) up false false false 0 0 0 (m : Int) up J M (b : Int) (t : Int) false true true x.1 x.2.1 x.2.2) (threeXs ((((m : Int), up), (J, (M, ((b : Int), (t : Int))))), ()))
      (fun x hx hb kn => by
        obtain ⟨a, c, d, ha, hc, hd, rfl⟩ := mem_three.1 hx
        obtain ⟨a', c', d', e, e2⟩ := hb
        simp only [Prod.mk.injEq, Int.ofNat_inj] at e
        obtain ⟨rfl, rfl, rfl⟩ := e
        rw [body a c d ha hc hd, if_neg e2])
      (fun x hx hb kn => by
        obtain ⟨a, c, d, ha, hc, hd, rfl⟩ := mem_three.1 hx
        rw [body a c d ha hc hd, if_pos (Classical.byContradiction fun e => hb ⟨a, c, d, rfl, e⟩), backE_eq]) hex
    obtain ⟨x, hx, -, e⟩ := key
    obtain ⟨mo, co, m1, c1, h⟩ := h14 false x.1 x.2.1 x.2.2
    refine ⟨false, mo, co, x.1, x.2.1, x.2.2, ?_, ⟨fun h => Bool.noConfusion h, fun h => absurd h hdi⟩, m1, c1⟩
    simp only [D_lattice_Kind, lattice_Kind_10, hD, Option.bind_some, bne_self_eq_false, cond_false, joinD, forE, hok, cond_true]
    exact e.trans h
theorem Kind_err {N : Nat} {n : Int} {up : List Int} {e : Int} (he : e ≠ 0) (hD : D_lattice_Of N ((n, up), ()) = some (zeroT, e, ())) : D_lattice_Kind N ((n, up), ()) = some ((false, (false, (false, (0, (0, 0))))), e, ()) := by
  simp only [D_lattice_Kind, lattice_Kind_10, hD, Option.bind_some, show (e != 0) = true from bne_iff_ne.2 he, cond_true]
end Go.Proofs.YtagghgmpdjoknaaDoor
