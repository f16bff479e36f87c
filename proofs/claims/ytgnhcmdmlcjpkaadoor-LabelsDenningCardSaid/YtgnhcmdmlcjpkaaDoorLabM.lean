/- labels: the document's lattice table: what it comes to. -/
import Derived.Test.YtgnhcmdmlcjpkaaDoorLab
import Derived.Test.YtgnhcmdmlcjpkaaDoorBoardS
import Derived.Test.YtgnhcmdmlcjpkaaDoorGhG
namespace Go.Proofs.YtgnhcmdmlcjpkaaDoor
open Go.Abs
section
variable {m : Nat} {up : List Int} {N : Nat} (hm : up.length = m) (hm16 : m ≤ 16) (hN : 1000 ≤ N) (hw : WL up)
include hm hm16 hN hw
/-- The element that both are below, and that is below all such. -/
theorem join_eq (hin : ∀ i, i < m → ∀ j, le up i j → j < m) {a b : Nat} (ha : a < m) (hb : b < m) :
    (∃ c : Nat, isB up a b c ∧ D_ref_join N (((m : Int), up), (a : Int), (b : Int), ()) = some ((c : Int), ())) ∨ ((¬ ∃ c, isB up a b c) ∧ D_ref_join N (((m : Int), up), (a : Int), (b : Int), ()) = some (-1, ())) := by
  have hB := fun {i j : Nat} (hi : i < m) (hj : j < m) => bel (N := N) hm hm16 hw hi hj
  have inner : ∀ (x : Nat), x < m → ∀ (l : Bool) (k : _ → Option Rt_ref_join), ∃ l' : Bool, (l' = true ↔ l = true ∧ ∀ y, y < m → le up a y → le up b y → le up x y) ∧
      ref_join_7 N k (a : Int) (b : Int) (x : Int) l (m : Int) up = bif l' then some ((x : Int), ()) else k ((a : Int), (b : Int), (x : Int), (m : Int), up) := by
    intro x hx l k
    simp only [ref_join_7, joinD, loopE]
    obtain ⟨⟨l', _⟩, ⟨rfl, hl'⟩, e⟩ := loopD_invk (K := Unit) (fun _ (s : Bool × Int) kn => ref_join_6 N (fun s => ref_join_3 N k s.1 s.2.1 s.2.2.1 s.2.2.2.1 s.2.2.2.2.1 s.2.2.2.2.2) (a : Int) (b : Int) (x : Int) (m : Int) up s.1 s.2 (backE ((a : Int), (b : Int), (x : Int), (m : Int), up) kn))
      (fun _ s => bif s.1 then some ((x : Int), ()) else k ((a : Int), (b : Int), (x : Int), (m : Int), up)) m (fun i s => s.2 = (i : Int) ∧ (s.1 = true ↔ l = true ∧ ∀ y, y < i → le up a y → le up b y → le up x y)) (fun i s hi hI => by
        obtain ⟨s1, _⟩ := s
        obtain ⟨rfl, hI⟩ := hI
        simp only at hI
        refine ⟨(bif bt (nth 0 up a) i && bt (nth 0 up b) i && !bt (nth 0 up x) i then false else s1, (i : Int) + 1), ⟨by simp, ?_⟩, fun _ kn => ?_⟩
        · simp only
          have e : (∀ y, y < i + 1 → le up a y → le up b y → le up x y) ↔ (∀ y, y < i → le up a y → le up b y → le up x y) ∧ (le up a i → le up b i → le up x i) := by
            constructor
            · exact fun h => ⟨fun y hy => h y (by omega), h i (by omega)⟩
            · rintro ⟨h1, h2⟩ y hy
              rcases Nat.lt_succ_iff_lt_or_eq.1 hy with h | rfl
              · exact h1 y h
              · exact h2
          rw [e, ← and_assoc, ← hI]
          unfold le
          cases bt (nth 0 up a) i <;> cases bt (nth 0 up b) i <;> cases bt (nth 0 up x) i <;> simp
        · simp only [ref_join_6, lt_d hi, cond_true, joinD, hB ha hi, hB hb hi, hB hx hi, Option.bind_some, ref_join_5, ref_join_4, w1 hm16 hi, backE_eq]
          cases bt (nth 0 up a) i <;> cases bt (nth 0 up b) i <;> cases bt (nth 0 up x) i <;> rfl)
      (fun s hI _ kn => by
        obtain ⟨s1, _⟩ := s
        obtain ⟨rfl, hI⟩ := hI
        simp only [ref_join_6, lt_self, cond_false, ref_join_3]) (N := N) (by omega) (s := (l, 0)) ⟨rfl, by simp⟩
    exact ⟨l', hl', e ()⟩
  simp only [D_ref_join, ref_join_9, joinD, loopE]
  have body : ∀ x : Nat, x < m → ∀ kn, (isB up a b x → ref_join_8 N (fun _ => ref_join_1 N) (a : Int) (b : Int) (m : Int) up (x : Int) (backE ((a : Int), (b : Int), (m : Int), up) kn) = some ((x : Int), ())) ∧
      (¬ isB up a b x → ref_join_8 N (fun _ => ref_join_1 N) (a : Int) (b : Int) (m : Int) up (x : Int) (backE ((a : Int), (b : Int), (m : Int), up) kn) = kn ((x : Int) + 1)) := by
    intro x hx kn
    have key : ∀ l : Bool, (l = true ↔ le up a x ∧ le up b x) →
        (isB up a b x → ref_join_7 N (fun s => ref_join_2 N (backE ((a : Int), (b : Int), (m : Int), up) kn) s.1 s.2.1 s.2.2.1 s.2.2.2.1 s.2.2.2.2) (a : Int) (b : Int) (x : Int) l (m : Int) up = some ((x : Int), ())) ∧
        (¬ isB up a b x → ref_join_7 N (fun s => ref_join_2 N (backE ((a : Int), (b : Int), (m : Int), up) kn) s.1 s.2.1 s.2.2.1 s.2.2.2.1 s.2.2.2.2) (a : Int) (b : Int) (x : Int) l (m : Int) up = kn ((x : Int) + 1)) := by
      intro l hl
      obtain ⟨l', h1, h2⟩ := inner x hx l (fun s => ref_join_2 N (backE ((a : Int), (b : Int), (m : Int), up) kn) s.1 s.2.1 s.2.2.1 s.2.2.2.1 s.2.2.2.2)
      rw [h2]
      have e : l' = true ↔ isB up a b x := by
        rw [h1, hl]
        unfold isB
        exact and_congr_right fun _ => ⟨fun h d h3 h4 => h d (hin a ha d h3) h3 h4, fun h y _ => h y⟩
      constructor
      · intro h; rw [e.2 h]; rfl
      · intro h
        have : l' = false := Bool.eq_false_iff.2 fun h' => h (e.1 h')
        rw [this]
        simp only [cond_false, ref_join_2, w1 hm16 hx, backE_eq]
    simp only [ref_join_8, lt_d hx, cond_true, joinD, hB ha hx, hB hb hx, Option.bind_some]
    cases e : bt (nth 0 up a) x with
    | true =>
      simp only [cond_true]
      exact key _ (by unfold le; rw [e]; simp)
    | false =>
      simp only [cond_false]
      exact key _ (by unfold le; rw [e]; simp)
  by_cases h : ∃ x, x < m ∧ isB up a b x
  · obtain ⟨x, hx, hbx, e⟩ := Gh.loopD_first (n := m) (N := N) (g := fun (s : Int) kn => ref_join_8 N (fun _ => ref_join_1 N) (a : Int) (b : Int) (m : Int) up s (backE ((a : Int), (b : Int), (m : Int), up) kn)) (fun x => some ((x : Int), ())) (isB up a b)
      (fun x hx hb kn => (body x hx kn).1 hb) (fun x hx hb kn => (body x hx kn).2 hb) (by omega) h
    exact .inl ⟨x, hbx, e⟩
  · have h' : ¬ ∃ c, isB up a b c := fun ⟨c, hc⟩ => h ⟨c, hin a ha c hc.1.1, hc⟩
    refine .inr ⟨h', ?_⟩
    exact loopD_pass (n := m) (g := fun (s : Int) kn => ref_join_8 N (fun _ => ref_join_1 N) (a : Int) (b : Int) (m : Int) up s (backE ((a : Int), (b : Int), (m : Int), up) kn)) (by omega) (fun x hx kn => (body x hx kn).2 fun hb => h ⟨x, hx, hb⟩) (fun kn => by simp only [ref_join_8, lt_self, cond_false]; rfl) (by omega)
omit hN in
theorem refDual_eq (hN : 40 ≤ N) : D_ref_OrderDual N (((m : Int), up), ()) = some (((m : Int), colsS up m up.length), ()) := by
  have hB := fun {i j : Nat} (hi : i < m) (hj : j < m) => bel (N := N) hm hm16 hw hi hj
  simp only [D_ref_OrderDual, ref_OrderDual_6, joinD, loopE]
  refine loopD_path (g := fun (s : Int × List Int) kn => ref_OrderDual_5 N (fun s => ref_OrderDual_1 N s.2.1 s.2.2) (m : Int) up 0 (m : Int) s.1 s.2 (backE ((m : Int), up, (0 : Int), (m : Int)) kn)) m
    (fun i => ((i : Int), (colsS up m up.length).take i)) (fun i hi kn => ?_) (fun kn => ?_) (by omega)
  · simp only [ref_OrderDual_5, lt_d hi, cond_true, joinD, loopE]
    have e2 := loopD_path (g := fun (s : Int × Int) kn' => ref_OrderDual_4 N (fun s => ref_OrderDual_3 N (fun s => ref_OrderDual_2 N (backE ((m : Int), up, (0 : Int), (m : Int)) kn) s.1 s.2.1 s.2.2.1 s.2.2.2.1 s.2.2.2.2.1 s.2.2.2.2.2) s.1 s.2.1 s.2.2.1 s.2.2.2.1 s.2.2.2.2.1 s.2.2.2.2.2.1 s.2.2.2.2.2.2)
        (i : Int) (m : Int) up 0 (m : Int) ((colsS up m up.length).take i) s.1 s.2 (backE ((i : Int), (m : Int), up, (0 : Int), (m : Int), (colsS up m up.length).take i) kn')) m
      (fun j => (mkw j fun t => bt (nth 0 up t) i, (j : Int))) (k := kn ((i : Int) + 1, (colsS up m up.length).take (i + 1))) (fun j hj kn2 => ?_) (fun kn2 => ?_) (show m < N by omega)
    · exact e2
    · simp only [ref_OrderDual_4, lt_d hj, cond_true, hB hj hi, Option.bind_some, w1 hm16 hj, backE_eq]
      rw [mkw_succ, show IntKind.u64.wrap (j : Int) = (j : Int) by rw [IntKind.wrap_u64]; omega, d_false (show ¬ (j : Int) < 0 by omega), cond_false]
      cases bt (nth 0 up j) i with
      | true => simp only [cond_true]; rfl
      | false => rfl
    · simp only [ref_OrderDual_4, lt_self, cond_false, ref_OrderDual_3, ref_OrderDual_2]
      have hl : (colsS up m up.length).length = m := by rw [colsS_len]; omega
      have hgi : (colsS up m up.length)[i]'(by omega) = mkw m fun t => bt (nth 0 up t) i := by
        rw [← nth_lt (z := 0) (by omega), nth_cols (by omega), hm]
      rw [d_true (by simp only [List.length_take, List.length_singleton]; omega), show Nat.ble 1 4 = true from rfl, Bool.and_self, cond_true, w1 hm16 hi, backE_eq, List.take_succ_eq_append_getElem (by omega), hgi]
  · simp only [ref_OrderDual_5, lt_self, cond_false, ref_OrderDual_1]
    rw [List.take_of_length_le (by rw [colsS_len]; omega)]
end
/-- Where all joins and meets are, there is a lattice. -/
theorem hasLat_of {m : Nat} {up dn : List Int} (ho : Ord (m : Int) up) (hm : up.length = m) (h0 : m ≠ 0) (hdn : colsS up m up.length = dn) (h : ∀ a, a < m → ∀ b, b < m → goodP up dn a b) : HasLat m up := by
  classical
  have hin : ∀ i, i < m → ∀ j, le up i j → j < m := fun i hi j h => by have := ho.inn i (by omega) j h; omega
  have hle : ∀ {i j}, i < m → j < m → (le dn j i ↔ le up i j) := fun {i j} hi hj => by rw [← hdn]; exact le_dual ho (by omega) (by omega)
  have hind : ∀ i, i < m → ∀ j, le dn i j → j < m := fun i hi j h => by rw [← hdn] at h; have := ho.dual.inn i (by omega) j h; omega
  have hJ : ∀ p : Nat × Nat, ∃ c, p.1 < m → p.2 < m → isB up p.1 p.2 c := fun p => by
    by_cases q : p.1 < m ∧ p.2 < m
    · obtain ⟨c, hc⟩ := (h p.1 q.1 p.2 q.2).1; exact ⟨c, fun _ _ => hc⟩
    · exact ⟨0, fun h1 h2 => absurd ⟨h1, h2⟩ q⟩
  have hK : ∀ p : Nat × Nat, ∃ c, p.1 < m → p.2 < m → isB dn p.1 p.2 c := fun p => by
    by_cases q : p.1 < m ∧ p.2 < m
    · obtain ⟨c, hc⟩ := (h p.1 q.1 p.2 q.2).2; exact ⟨c, fun _ _ => hc⟩
    · exact ⟨0, fun h1 h2 => absurd ⟨h1, h2⟩ q⟩
  obtain ⟨J, hJ⟩ := Classical.axiomOfChoice hJ
  obtain ⟨K, hK⟩ := Classical.axiomOfChoice hK
  have jl : ∀ x y, x < m → y < m → J (x, y) < m := fun x y hx hy => hin x hx _ (hJ (x, y) hx hy).1.1
  have kl : ∀ x y, x < m → y < m → K (x, y) < m := fun x y hx hy => hind x hx _ (hK (x, y) hx hy).1.1
  have rf : ∀ i, i < m → le up i i := fun i hi => ho.refl i (by omega)
  have tr : ∀ i j k, i < m → j < m → le up i j → le up j k → le up i k := fun i j k hi hj => ho.trans i j k (by omega) (by omega)
  have top : ∀ n, n ≤ m → 0 < n → ∃ t, t < m ∧ ∀ d, d < n → le up d t := fun n => by
    induction n with
    | zero => intro _ h; omega
    | succ n ih =>
      intro hn _
      by_cases q : n = 0
      · subst q
        refine ⟨0, by omega, fun d hd => ?_⟩
        obtain rfl : d = 0 := by omega
        exact rf 0 (by omega)
      · obtain ⟨t, ht, h1⟩ := ih (by omega) (by omega)
        have hb := (hJ (t, n) ht (by omega)).1
        refine ⟨J (t, n), jl t n ht (by omega), fun d hd => ?_⟩
        rcases Nat.lt_succ_iff_lt_or_eq.1 hd with h | rfl
        · exact tr d t _ (by omega) ht (h1 d h) hb.1
        · exact hb.2
  have bot : ∀ n, n ≤ m → 0 < n → ∃ t, t < m ∧ ∀ d, d < n → le dn d t := fun n => by
    induction n with
    | zero => intro _ h; omega
    | succ n ih =>
      intro hn _
      by_cases q : n = 0
      · subst q
        refine ⟨0, by omega, fun d hd => ?_⟩
        obtain rfl : d = 0 := by omega
        exact (hle (by omega) (by omega)).2 (rf 0 (by omega))
      · obtain ⟨t, ht, h1⟩ := ih (by omega) (by omega)
        have hb := (hK (t, n) ht (by omega)).1
        have hk := kl t n ht (by omega)
        refine ⟨K (t, n), hk, fun d hd => ?_⟩
        rcases Nat.lt_succ_iff_lt_or_eq.1 hd with h | rfl
        · exact (hle hk (by omega)).2 (tr _ t d hk ht ((hle hk ht).1 hb.1) ((hle ht (by omega)).1 (h1 d h)))
        · exact hb.2
  obtain ⟨t, ht, htt⟩ := top m (Nat.le_refl _) (by omega)
  obtain ⟨b, hb, hbb⟩ := bot m (Nat.le_refl _) (by omega)
  exact ⟨fun x y => J (x, y), fun x y => K (x, y), b, t, {
    refl := rf
    anti := fun i j hi hj => ho.anti i j (by omega) (by omega)
    trans := fun i j k hi hj hk => tr i j k hi hj
    jlt := jl
    klt := kl
    jle := fun x y d hx hy hd => ⟨fun h => ⟨tr x _ d hx (jl x y hx hy) (hJ (x, y) hx hy).1.1 h, tr y _ d hy (jl x y hx hy) (hJ (x, y) hx hy).1.2 h⟩, fun h => (hJ (x, y) hx hy).2 d h.1 h.2⟩
    kle := fun x y d hx hy hd => ⟨fun h => ⟨tr d _ x hd (kl x y hx hy) h ((hle (kl x y hx hy) hx).1 (hK (x, y) hx hy).1.1), tr d _ y hd (kl x y hx hy) h ((hle (kl x y hx hy) hy).1 (hK (x, y) hx hy).1.2)⟩,
      fun h => (hle hd (kl x y hx hy)).1 ((hK (x, y) hx hy).2 d ((hle hd hx).2 h.1) ((hle hd hy).2 h.2))⟩
    blt := hb
    tlt := ht
    ble := fun d hd => (hle hb hd).1 (hbb d hd)
    tle := htt }⟩
theorem LatMake_eq {N : Nat} (hN : 1000 ≤ N) {up : List Int} (hw : WL up) (n : Int) : ∃ r e, D_ref_LatticeMake N ((n, up), ()) = some (r, e, ()) ∧ (e = 0 ↔ Ord n up ∧ HasLat n.toNat up) := by
  obtain ⟨e, e1, e2⟩ := OrderCheck_spec (N := N) (by omega) hw n
  simp only [D_ref_LatticeMake, ref_LatticeMake_7, e1, Option.bind_some]
  by_cases ho : Ord n up
  case neg =>
    have he : e ≠ 0 := fun h => ho (e2.1 h)
    rw [show (e != 0) = true from bne_iff_ne.2 he, cond_true]
    exact ⟨_, _, rfl, ⟨fun h => absurd h he, fun h => absurd h.1 ho⟩⟩
  obtain rfl := e2.2 ho
  rw [show ((0 : Int) != 0) = false from rfl, cond_false]
  obtain ⟨m, rfl⟩ : ∃ m : Nat, n = (m : Int) := ⟨n.toNat, by have := ho.h0; omega⟩
  have hm16 : m ≤ 16 := by have := ho.h1; omega
  have hm : up.length = m := by have := ho.len; omega
  rw [Int.toNat_natCast]
  by_cases h0 : m = 0
  · subst h0
    exact ⟨_, 5, rfl, ⟨fun h => (by cases h), fun ⟨_, J, K, b, t, hl⟩ => absurd hl.blt (Nat.not_lt_zero _)⟩⟩
  rw [show ((m : Int) == 0) = false from beq_false_of_ne (by omega), cond_false]
  have hin : ∀ i, i < m → ∀ j, le up i j → j < m := fun i hi j h => by have := ho.inn i (by omega) j h; omega
  have hod := ho.dual
  have hwd : WL (colsS up m up.length) := WL.colsS _ _ _
  have hld : (colsS up m up.length).length = m := by rw [colsS_len]; omega
  have hind : ∀ i, i < m → ∀ j, le (colsS up m up.length) i j → j < m := fun i hi j h => by have := hod.inn i (by omega) j h; omega
  rw [refDual_eq hm hm16 hw (by omega), Option.bind_some]
  simp only [joinD, loopE]
  generalize hdn : colsS up m up.length = dn at *
  have hgl : HasLat m up ↔ ∀ a, a < m → ∀ b, b < m → goodP up dn a b := by
    have hle : ∀ {i j}, i < m → j < m → (le dn j i ↔ le up i j) := fun {i j} hi hj => by rw [← hdn]; exact le_dual ho (by omega) (by omega)
    constructor
    · rintro ⟨J, K, b, t, hl⟩ x hx y hy
      refine ⟨⟨J x y, ⟨hl.jl hx hy, hl.jr hx hy⟩, fun d h1 h2 => (hl.jle x y d hx hy (hin x hx d h1)).2 ⟨h1, h2⟩⟩, ⟨K x y, ⟨(hle (hl.klt x y hx hy) hx).2 (hl.kl hx hy), (hle (hl.klt x y hx hy) hy).2 (hl.kr hx hy)⟩, fun d h1 h2 => ?_⟩⟩
      have hd := hind x hx d h1
      exact (hle hd (hl.klt x y hx hy)).2 ((hl.kle x y d hx hy hd).2 ⟨(hle hd hx).1 h1, (hle hd hy).1 h2⟩)
    · intro h
      rcases LatOf_spec (N := 1000) (Nat.le_refl _) hw (m : Int) with ⟨e, _, _, h3⟩ | ⟨m', J, M, B, T, he, _, hl, _⟩
      · refine absurd h fun h => (h3 ho).2 ?_
        rw [Int.toNat_natCast]
        exact hasLat_of ho hm h0 (dn := dn) hdn h
      · have : m' = m := by omega
        subst this
        exact ⟨_, _, _, _, hl.lat⟩
  have step : ∀ {a b : Nat}, a < m → b < m → ∀ (J M : List Int) (kn kk), J.length ≤ 1000 → M.length ≤ 1000 →
      (¬ goodP up dn a b → ref_LatticeMake_5 N kk (a : Int) (m : Int) up 0 0 (m : Int) dn 0 0 (b : Int) J M (backE ((a : Int), (m : Int), up, (0 : Int), (0 : Int), (m : Int), dn, (0 : Int), (0 : Int)) kn) = some (([], ([], ((0 : Int), (0 : Int)))), (5 : Int), ())) ∧
      (goodP up dn a b → ∃ c d : Nat, isB up a b c ∧ isB dn a b d ∧ ref_LatticeMake_5 N kk (a : Int) (m : Int) up 0 0 (m : Int) dn 0 0 (b : Int) J M (backE ((a : Int), (m : Int), up, (0 : Int), (0 : Int), (m : Int), dn, (0 : Int), (0 : Int)) kn) = kn ((b : Int) + 1, J ++ [(c : Int)], M ++ [(d : Int)])) := by
    intro a b ha hb J M kn kk hJ hM
    simp only [ref_LatticeMake_5, lt_d hb, cond_true]
    rcases join_eq hm hm16 hN hw hin ha hb with ⟨c, c1, c2⟩ | ⟨c1, c2⟩
    · rcases join_eq hld hm16 hN hwd hind ha hb with ⟨d, d1, d2⟩ | ⟨d1, d2⟩
      · refine ⟨fun h => absurd ⟨⟨c, c1⟩, ⟨d, d1⟩⟩ h, fun _ => ⟨c, d, c1, d1, ?_⟩⟩
        simp only [c2, d2, Option.bind_some, d_false (show ¬ (c : Int) < 0 by omega), d_false (show ¬ (d : Int) < 0 by omega), cond_false]
        rw [d_true (by simp; omega), d_true (by simp; omega), w1 hm16 hb, backE_eq]
        rfl
      · refine ⟨fun _ => ?_, fun h => absurd h.2 d1⟩
        simp only [c2, d2, Option.bind_some, d_false (show ¬ (c : Int) < 0 by omega), d_true (show (-1 : Int) < 0 by omega), cond_false, cond_true]
    · refine ⟨fun _ => ?_, fun h => absurd h.1 c1⟩
      rcases join_eq hld hm16 hN hwd hind ha hb with ⟨d, d1, d2⟩ | ⟨d1, d2⟩ <;> simp only [c2, d2, Option.bind_some, d_true (show (-1 : Int) < 0 by omega), cond_true]
  let QQ : Option Rt_ref_LatticeMake → Prop := fun r => ∃ x e, r = some (x, e, ()) ∧ (e = 0 ↔ HasLat m up)
  have hbad : (¬ HasLat m up) → QQ (some (([], ([], ((0 : Int), (0 : Int)))), (5 : Int), ())) := fun h => ⟨_, 5, rfl, fun h' => (by cases h'), fun h' => absurd h' h⟩
  suffices hs : QQ _ by
    obtain ⟨x, e, h1, h2⟩ := hs
    exact ⟨x, e, h1, h2.trans ⟨fun h => ⟨ho, h⟩, fun h => h.2⟩⟩
  refine Gh.loopD_Q QQ m (fun i (s : Int × List Int × List Int) => s.1 = (i : Int) ∧ EInv up m s.2.1 (i * m) ∧ EInv dn m s.2.2 (i * m) ∧ ∀ a, a < i → ∀ b, b < m → goodP up dn a b) ?_ ?_ (by omega) ⟨rfl, ⟨by simp, fun t ht => by omega⟩, ⟨by simp, fun t ht => by omega⟩, fun a ha => by omega⟩
  · rintro i ⟨_, J, M⟩ hi ⟨rfl, hJ, hM, hG⟩ kn hk
    simp only at hJ hM
    simp only [ref_LatticeMake_6, lt_d hi, cond_true, joinD, loopE]
    refine Gh.loopD_Q QQ m (fun b (s : Int × List Int × List Int) => s.1 = (b : Int) ∧ EInv up m s.2.1 (i * m + b) ∧ EInv dn m s.2.2 (i * m + b) ∧ ∀ b', b' < b → goodP up dn i b') ?_ ?_ (by omega) ⟨rfl, hJ, hM, fun b hb => by omega⟩
    · rintro b ⟨_, J', M'⟩ hb ⟨rfl, hJ', hM', hG'⟩ kn' hk'
      simp only at hJ' hM'
      have h3 := at_lt hi hb
      have h4 : m * m ≤ 256 := Nat.mul_le_mul hm16 hm16
      obtain ⟨s1, s2⟩ := step hi hb J' M' kn' (fun s => ref_LatticeMake_4 N (backE ((m : Int), up, (0 : Int), (0 : Int), (m : Int), dn, (0 : Int), (0 : Int)) kn) s.1 s.2.1 s.2.2.1 s.2.2.2.1 s.2.2.2.2.1 s.2.2.2.2.2.1 s.2.2.2.2.2.2.1 s.2.2.2.2.2.2.2.1 s.2.2.2.2.2.2.2.2.1 s.2.2.2.2.2.2.2.2.2.1 s.2.2.2.2.2.2.2.2.2.2) (by rw [hJ'.1]; omega) (by rw [hM'.1]; omega)
      by_cases hg : goodP up dn i b
      · obtain ⟨c, d, c1, d1, e⟩ := s2 hg
        show QQ (ref_LatticeMake_5 _ _ _ _ _ _ _ _ _ _ _ _ _ _ _)
        rw [e]
        refine hk' _ ⟨by simp, hJ'.push hb c1, hM'.push hb d1, fun b' hb' => ?_⟩
        rcases Nat.lt_succ_iff_lt_or_eq.1 hb' with h | rfl
        · exact hG' b' h
        · exact hg
      · show QQ (ref_LatticeMake_5 _ _ _ _ _ _ _ _ _ _ _ _ _ _ _)
        rw [s1 hg]
        exact hbad fun h => hg (hgl.1 h i hi b hb)
    · rintro ⟨_, J', M'⟩ ⟨rfl, hJ', hM', hG'⟩ kn'
      simp only at hJ' hM'
      simp only [ref_LatticeMake_5, lt_self, cond_false, ref_LatticeMake_4, w1 hm16 hi, backE_eq]
      refine hk _ ⟨by simp, by simpa [Nat.succ_mul] using hJ', by simpa [Nat.succ_mul] using hM', fun a ha b hb => ?_⟩
      rcases Nat.lt_succ_iff_lt_or_eq.1 ha with h | rfl
      · exact hG a h b hb
      · exact hG' b hb
  · rintro ⟨_, J, M⟩ ⟨rfl, hJ, hM, hG⟩ kn
    simp only at hJ hM
    have hH : HasLat m up := hgl.2 hG
    simp only [ref_LatticeMake_6, lt_self, cond_false, ref_LatticeMake_3, joinD, loopE]
    have hent : ∀ {L rows : List Int}, (∀ i, i < m → ∀ j, le rows i j → j < m) → EInv rows m L (m * m) → ∀ a b, a < m → b < m → ∃ c : Nat, nth 0 L (a * m + b) = (c : Int) ∧ c < m := fun {L rows} hin hL a b ha hb => by
      obtain ⟨h1, h2⟩ := hL.get ha hb
      exact ⟨_, h1, hin a ha _ h2.1.1⟩
    refine Gh.loopD_Q QQ m (fun i (s : Int × Int × Int) => s.1 = (i : Int) ∧ ∃ b t : Nat, s.2 = ((b : Int), (t : Int)) ∧ b < m ∧ t < m) ?_ ?_ (by omega) ⟨rfl, 0, 0, rfl, by omega, by omega⟩
    · rintro i ⟨_, _, _⟩ hi ⟨rfl, b, t, e, hb, ht⟩ kn' hk'
      cases e
      obtain ⟨c, c1, c2⟩ := hent hind hM b i hb hi
      obtain ⟨d, d1, d2⟩ := hent hin hJ t i ht hi
      simp only [ref_LatticeMake_2, lt_d hi, cond_true, wrap_at hm16 hb hi, wrap_at hm16 ht hi, ge0_d, lt_d (show b * m + i < M.length by rw [hM.1]; exact at_lt hb hi), lt_d (show t * m + i < J.length by rw [hJ.1]; exact at_lt ht hi), Bool.and_self, Int.toNat_natCast, c1, d1, w1 hm16 hi, backE_eq]
      exact hk' _ ⟨by simp, c, d, rfl, c2, d2⟩
    · rintro ⟨_, _, _⟩ ⟨rfl, b, t, e, hb, ht⟩ kn'
      cases e
      simp only [ref_LatticeMake_2, lt_self, cond_false, ref_LatticeMake_1]
      exact ⟨_, 0, rfl, fun _ => hH, fun _ => rfl⟩
end Go.Proofs.YtgnhcmdmlcjpkaaDoor
