/- Each of two lists of times is before the other just if their Fronts are one, and one is before the other just if its Front is before the other's: the law answers true for every two lists. No condition. -/
import Derived.Test.YtololihlpldcdaaTimesG
import Derived.Test.YtololihlpldcdaaTimesB
import Derived.Test.YtololihlpldcdaaFrame0
namespace Go.Proofs.Ytololihlpldcdaa
open Go Go.ChangeShapes Go.WideShapes Go.ChangeAt Go.WideMaps Go.WideElems Go.RowKit Go.Abs
-- watershed/watershedkeep.TimesOrders
abbrev Ks_keep_TimesOrders : List Kd := [.dat (.sl (.sl (.int .i64))), .dat (.sl (.sl (.int .i64)))]
abbrev Rk_keep_TimesOrders : List Kd := [.dat (.bool)]
abbrev Rt_keep_TimesOrders : Type := Dens Rk_keep_TimesOrders
noncomputable def C_keep_TimesOrders (_N : Nat) : Ctx := { T := [(4, ⟨.bool, 1, 1, some .bool, [.bool false]⟩)], G := findE [mkP 20 Ks_times_Before Rk_times_Before (D_times_Before _N), mkQ 15 Ks_times_Front Rk_times_Front (D_times_Front _N), mkP 16 Ks_ref_Lists Rk_ref_Lists (D_ref_Lists _N)], I := findI [], N := _N, n := 78, fx := [], fl := 0, gs := [] }
noncomputable def keep_TimesOrders_1 (_N : Nat) (_x1 : List (List Int)) (_x2 : List (List Int)) : Option Rt_keep_TimesOrders :=
  ((D_times_Before _N (_x1, _x2, ())).bind fun _y8 => ((D_times_Before _N (_x2, _x1, ())).bind fun _y9 => ((D_times_Front _N (_x1, ())).bind fun _y10 => ((D_times_Front _N (_x2, ())).bind fun _y11 => (bif (_y8.2.1 != (0 : Int)) then (some (((_y8.2.1 == (0 : Int)) == (_y9.2.1 == (0 : Int))), ())) else (bif (_y9.2.1 != (0 : Int)) then (some (((_y8.2.1 == (0 : Int)) == (_y9.2.1 == (0 : Int))), ())) else (bif (_y10.2.1 != (0 : Int)) then (some (((_y8.2.1 == (0 : Int)) == (_y9.2.1 == (0 : Int))), ())) else (bif (_y11.2.1 != (0 : Int)) then (some (((_y8.2.1 == (0 : Int)) == (_y9.2.1 == (0 : Int))), ())) else ((D_times_Before _N (_y10.1, _y11.1, ())).bind fun _y12 => (bif (_y12.2.1 == (0 : Int)) then (bif (_y12.1 == _y8.1) then (bif _y8.1 then ((D_ref_Lists _N (_y10.1, _y11.1, ())).bind fun _y13 => (some ((_y9.1 == _y13.1), ()))) else ((D_ref_Lists _N (_y10.1, _y11.1, ())).bind fun _y14 => (some ((false == _y14.1), ())))) else (some (false, ()))) else (some (false, ()))))))))))))
noncomputable def D_keep_TimesOrders (_N : Nat) (_x : Dens Ks_keep_TimesOrders) : Option Rt_keep_TimesOrders := keep_TimesOrders_1 _N _x.1 _x.2.1
theorem sp_keep_TimesOrders (_N : Nat) : SpecD Try.prog [] 6 Ks_keep_TimesOrders Rk_keep_TimesOrders (D_keep_TimesOrders _N) := mkSpD (fn := Try.f6) (c := bodyOf Try.f6) (C := C_keep_TimesOrders _N)
    (a := .none)
    (by kernel_rfl) rfl (by kernel_rfl) (by kernel_rfl) ⟨rfl, by unfold TOk; kernel_rfl, gOk_of rfl rfl (List.forall_mem_cons.2 ⟨en_times_Before _N, (List.forall_mem_cons.2 ⟨qen_times_Front _N, (List.forall_mem_cons.2 ⟨en_ref_Lists _N, (List.forall_mem_nil _)⟩)⟩)⟩), iOk_of rfl rfl (List.forall_mem_nil _), rfl⟩ (fun _x => by kernel_rfl)
theorem en_keep_TimesOrders (_N : Nat) : EntOk Try.prog [] (mkP 6 Ks_keep_TimesOrders Rk_keep_TimesOrders (D_keep_TimesOrders _N)) := entP ⟨Try.f6, bodyOf Try.f6, by kernel_rfl, by kernel_rfl, rfl⟩ (by kernel_rfl) (sp_keep_TimesOrders _N)
/-- Two lists that may stand together. -/
def LL (f g : List (List Int)) : Prop := TL f ∧ TL g ∧ (0 < f.length → 0 < g.length → (nth [] f 0).length = (nth [] g 0).length)
theorem LL.turn {f g : List (List Int)} (h : LL f g) : LL g f := ⟨h.2.1, h.1, fun a b => (h.2.2 b a).symm⟩
theorem lists_eq {N : Nat} (hN : 1000 ≤ N) (f g : List (List Int)) : ∃ e, D_times_lists N (f, g, ()) = some (e, ()) ∧ (e = 0 ↔ LL f g) := by
  obtain ⟨e, e1, e2⟩ := List_eq hN f
  obtain ⟨x, x1, x2⟩ := List_eq hN g
  simp only [D_times_lists, times_lists_1, e1, x1, Option.bind_some]
  by_cases hf : TL f
  case neg =>
    have he : e ≠ 0 := fun h' => hf (e2.1 h')
    exact ⟨e, by rw [show (e != 0) = true from bne_iff_ne.2 he, cond_true], fun h => absurd h he, fun h => absurd h.1 hf⟩
  obtain rfl := e2.2 hf
  by_cases hg : TL g
  case neg =>
    have he : x ≠ 0 := fun h' => hg (x2.1 h')
    exact ⟨x, by rw [bne_self_eq_false, cond_false, show (x != 0) = true from bne_iff_ne.2 he, cond_true], fun h => absurd h he, fun h => absurd h.2.1 hg⟩
  obtain rfl := x2.2 hg
  simp only [bne_self_eq_false, cond_false]
  by_cases h1 : 0 < f.length
  case neg => exact ⟨0, by rw [d_false (by omega), cond_false], fun _ => ⟨hf, hg, fun h => absurd h h1⟩, fun _ => rfl⟩
  by_cases h2 : 0 < g.length
  case neg => exact ⟨0, by rw [d_true (by omega), cond_true, d_false (by omega), cond_false], fun _ => ⟨hf, hg, fun _ h => absurd h h2⟩, fun _ => rfl⟩
  have d1 : decide ((0 : Int) < (f.length : Int)) = true := d_true (by omega)
  have d2 : decide ((0 : Int) < (g.length : Int)) = true := d_true (by omega)
  simp only [d_true (show (f.length : Int) > 0 by omega), d_true (show (g.length : Int) > 0 by omega), d1, d2, show decide ((0 : Int) ≤ 0) = true from rfl, Bool.and_self, cond_true, Int.toNat_zero]
  by_cases h3 : (nth [] f 0).length = (nth [] g 0).length
  · exact ⟨0, by rw [h3, bne_self_eq_false, cond_false], fun _ => ⟨hf, hg, fun _ _ => h3⟩, fun _ => rfl⟩
  · exact ⟨3, by rw [show (((nth [] f 0).length : Int) != ((nth [] g 0).length : Int)) = true from bne_iff_ne.2 (by omega), cond_true], fun h => absurd h (by decide), fun h => absurd (h.2.2 h1 h2) h3⟩
/-- Is all that is open by the other open by the one? -/
def bef (f g : List (List Int)) : Bool := g.all fun t => f.any fun u => leqT u t
theorem Before_eq {N : Nat} (hN : 1000 ≤ N) (f g : List (List Int)) : (¬ LL f g ∧ ∃ e, e ≠ 0 ∧ D_times_Before N (f, g, ()) = some (false, e, ())) ∨ (LL f g ∧ D_times_Before N (f, g, ()) = some (bef f g, 0, ())) := by
  obtain ⟨e, e1, e2⟩ := lists_eq hN f g
  simp only [D_times_Before, times_Before_3, e1, Option.bind_some]
  by_cases h : LL f g
  case neg =>
    have he : e ≠ 0 := fun h' => h (e2.1 h')
    exact .inl ⟨h, e, he, by rw [show (e != 0) = true from bne_iff_ne.2 he, cond_true]⟩
  obtain rfl := e2.2 h
  have hf := h.1.len
  have hg := h.2.1.len
  refine .inr ⟨h, ?_⟩
  simp only [bne_self_eq_false, cond_false, joinD, loopE]
  have hbody : ∀ i, i < g.length → ∀ kn, times_Before_2 N (fun _ => times_Before_1 N) f g (g.length : Int) (i : Int) (backE (f, g, (g.length : Int)) kn) = if (f.any fun u => leqT u (nth [] g i)) = true then kn ((i : Int) + 1) else some (false, 0, ()) := fun i hi kn => by
    simp only [times_Before_2, lt_d hi, ge0_d, Bool.and_self, cond_true, Int.toNat_natCast, Open_eq hN hf, Option.bind_some, backE_eq, ix1 hi (by omega)]
    cases (f.any fun u => leqT u (nth [] g i)) <;> rfl
  cases hb : bef f g with
  | true =>
    have hall : ∀ i, i < g.length → (f.any fun u => leqT u (nth [] g i)) = true := fun i hi => List.all_eq_true.1 hb _ (nth_mem (z := ([] : List Int)) hi)
    exact loopD_pass (n := g.length) (by omega) (fun i hi kn => by rw [hbody i hi, if_pos (hall i hi)]) (fun kn => by simp only [times_Before_2, lt_self, cond_false, times_Before_1]) (by omega)
  | false =>
    have hex : ∃ i, i < g.length ∧ ¬ (f.any fun u => leqT u (nth [] g i)) = true := Classical.byContradiction fun hn => by
      have : bef f g = true := List.all_eq_true.2 fun t ht => by
        obtain ⟨i, hi, rfl⟩ := mem_nth (z := ([] : List Int)) ht
        exact Classical.byContradiction fun hb => hn ⟨i, hi, hb⟩
      rw [hb] at this; cases this
    exact loopD_hit (n := g.length) (by omega) (fun i => ¬ (f.any fun u => leqT u (nth [] g i)) = true) (fun i hi hb kn => by rw [hbody i hi, if_neg hb]) (fun i hi hb kn => by rw [hbody i hi, if_pos (Classical.not_not.1 hb)]) (by omega) hex
theorem bef_iff {f g : List (List Int)} : bef f g = true ↔ ∀ t ∈ g, ∃ u, u ∈ f ∧ leqT u t = true := by
  unfold bef
  rw [List.all_eq_true]
  exact ⟨fun h t ht => List.any_eq_true.1 (h t ht), fun h t ht => List.any_eq_true.2 (h t ht)⟩
/-- One is before the other just if its front is before the other's. -/
theorem bef_front {f g p q : List (List Int)} (hf : TL f) (hg : TL g) (hp : ∀ t, t ∈ p ↔ isMin f t) (hq : ∀ t, t ∈ q ↔ isMin g t) : bef p q = bef f g := by
  rw [Bool.eq_iff_iff, bef_iff, bef_iff]
  have hop := open_front hf hp
  constructor
  · intro h t ht
    obtain ⟨v, hv, hvt⟩ := front_under hg.one hq ht
    obtain ⟨u, hu, hl⟩ := h v hv
    obtain ⟨⟨h1, h2, -⟩, h4⟩ := leqT_iff.1 hl
    have hvg := ((hq v).1 hv).1
    exact ⟨u, ((hp u).1 hu).1, leqT_iff.2 ⟨⟨by rw [h1]; exact hg.eqL hvg ht, h2, hg.tok t ht⟩, undr_trans h4 hvt⟩⟩
  · intro h t ht
    obtain ⟨u, hu, hl⟩ := h t ((hq t).1 ht).1
    have : f.any (fun u => leqT u t) = true := List.any_eq_true.2 ⟨u, hu, hl⟩
    rw [← hop t] at this
    exact List.any_eq_true.1 this
/-- Each is before the other just if their fronts are one. -/
theorem bef_both {p q : List (List Int)} (rp : Rise p) (rq : Rise q) (tp : TL p) (tq : TL q) (hp : ∀ t, isMin p t ↔ t ∈ p) (hq : ∀ t, isMin q t ↔ t ∈ q) : (bef p q = true ∧ bef q p = true) ↔ p = q := by
  constructor
  · rintro ⟨h1, h2⟩
    have key : ∀ {p q : List (List Int)}, (∀ t, isMin p t ↔ t ∈ p) → bef p q = true → bef q p = true → ∀ t ∈ p, t ∈ q := fun {p q} hp h1 h2 t ht => by
      obtain ⟨v, hv, hvt⟩ := bef_iff.1 h2 t ht
      obtain ⟨u, hu, huv⟩ := bef_iff.1 h1 v hv
      obtain ⟨⟨a1, -, -⟩, a2⟩ := leqT_iff.1 hvt
      obtain ⟨⟨b1, -, -⟩, b2⟩ := leqT_iff.1 huv
      have e := ((hp t).2 ht).2 u hu (undr_trans b2 a2)
      subst e
      have := undr_anti a1 a2 b2
      rw [← this]; exact hv
    exact rise_uniq rp rq fun t => ⟨key hp h1 h2 t, key hq h2 h1 t⟩
  · rintro rfl
    have : bef p p = true := bef_iff.2 fun t ht => ⟨t, ht, leqT_iff.2 ⟨⟨rfl, tp.tok t ht, tp.tok t ht⟩, undr_refl t⟩⟩
    exact ⟨this, this⟩
theorem Same_eq {N : Nat} (hN : 1000 ≤ N) {a b : List Int} (ha : a.length ≤ 4) : D_ref_TimesSame N (a, b, ()) = some (decide (a = b), ()) := by
  by_cases e : a = b
  · subst e; rw [Same_self hN (by omega)]; simp
  rw [show decide (a = b) = false from decide_eq_false e]
  simp only [D_ref_TimesSame, ref_TimesSame_3]
  by_cases hl : a.length = b.length
  case neg => rw [show ((a.length : Int) != (b.length : Int)) = true from bne_iff_ne.2 (by omega), cond_true]
  rw [show ((a.length : Int) != (b.length : Int)) = false from by rw [hl, bne_self_eq_false], cond_false]
  simp only [joinD, loopE]
  have hex : ∃ i, i < a.length ∧ nth 0 a i ≠ nth 0 b i := Classical.byContradiction fun hn => e (ext_nth hl fun i hi => Classical.byContradiction fun hb => hn ⟨i, hi, hb⟩)
  refine loopD_hit (n := a.length) (by omega) (fun i => nth 0 a i ≠ nth 0 b i) (fun i hi hb kn => ?_) (fun i hi hb kn => ?_) (by omega) hex
  · simp only [ref_TimesSame_2, lt_d hi, lt_d (show i < b.length by omega), ge0_d, Bool.and_self, cond_true, Int.toNat_natCast, show (nth 0 a i != nth 0 b i) = true from bne_iff_ne.2 hb]
  · have hb := Classical.not_not.1 hb
    simp only [ref_TimesSame_2, lt_d hi, lt_d (show i < b.length by omega), ge0_d, Bool.and_self, cond_true, Int.toNat_natCast, hb, bne_self_eq_false, cond_false, backE_eq, ix1 hi (by omega)]
theorem ext_nthL {a b : List (List Int)} (hl : a.length = b.length) (h : ∀ i, i < a.length → nth [] a i = nth [] b i) : a = b := by
  apply List.ext_getElem hl
  intro i h1 h2
  have := h i h1
  rwa [nth_lt h1, nth_lt h2] at this
theorem Lists_eq {N : Nat} (hN : 1000 ≤ N) {p q : List (List Int)} (hp : p.length ≤ 64) (h4 : ∀ t ∈ p, t.length ≤ 4) : D_ref_Lists N (p, q, ()) = some (decide (p = q), ()) := by
  by_cases e : p = q
  · subst e; rw [Lists_self hN hp h4]; simp
  rw [show decide (p = q) = false from decide_eq_false e]
  simp only [D_ref_Lists, ref_Lists_3]
  by_cases hl : p.length = q.length
  case neg => rw [show ((p.length : Int) != (q.length : Int)) = true from bne_iff_ne.2 (by omega), cond_true]
  rw [show ((p.length : Int) != (q.length : Int)) = false from by rw [hl, bne_self_eq_false], cond_false]
  simp only [joinD, loopE]
  have hex : ∃ i, i < p.length ∧ nth [] p i ≠ nth [] q i := Classical.byContradiction fun hn => e (ext_nthL hl fun i hi => Classical.byContradiction fun hb => hn ⟨i, hi, hb⟩)
  refine loopD_hit (n := p.length) (by omega) (fun i => nth [] p i ≠ nth [] q i) (fun i hi hb kn => ?_) (fun i hi hb kn => ?_) (by omega) hex
  · have hm := h4 _ (nth_mem (z := ([] : List Int)) hi)
    simp only [ref_Lists_2, lt_d hi, lt_d (show i < q.length by omega), ge0_d, Bool.and_self, cond_true, Int.toNat_natCast, Same_eq hN hm, Option.bind_some, show decide (nth [] p i = nth [] q i) = false from decide_eq_false hb, Bool.not_false]
  · have hm := h4 _ (nth_mem (z := ([] : List Int)) hi)
    have hb := Classical.not_not.1 hb
    simp only [ref_Lists_2, lt_d hi, lt_d (show i < q.length by omega), ge0_d, Bool.and_self, cond_true, Int.toNat_natCast, Same_eq hN hm, Option.bind_some, show decide (nth [] p i = nth [] q i) = true from decide_eq_true hb, Bool.not_true, cond_false, backE_eq, ix1 hi (by omega)]
theorem law_TimesOrders (f g : List (List Int)) (_wf : wfS (.sl (.sl (.int .i64))) f) (_wg : wfS (.sl (.sl (.int .i64))) g) : ∃ N, D_keep_TimesOrders N (f, g, ()) = some (true, ()) := by
  refine ⟨1000, ?_⟩
  simp only [D_keep_TimesOrders, keep_TimesOrders_1]
  by_cases h : LL f g
  case neg =>
    have h' : ¬ LL g f := fun q => h q.turn
    rcases Before_eq (N := 1000) (Nat.le_refl _) f g with ⟨-, e, he, b1⟩ | ⟨q, -⟩
    rcases Before_eq (N := 1000) (Nat.le_refl _) g f with ⟨-, x, hx, b2⟩ | ⟨q, -⟩
    · obtain ⟨r1, hr1⟩ : ∃ r, D_times_Front 1000 (f, ()) = some r := by
        rcases Front_eq (N := 1000) (Nat.le_refl _) f with ⟨-, e, -, k⟩ | ⟨-, p, k, -⟩
        · exact ⟨_, k⟩
        · exact ⟨_, k⟩
      obtain ⟨r2, hr2⟩ : ∃ r, D_times_Front 1000 (g, ()) = some r := by
        rcases Front_eq (N := 1000) (Nat.le_refl _) g with ⟨-, e, -, k⟩ | ⟨-, p, k, -⟩
        · exact ⟨_, k⟩
        · exact ⟨_, k⟩
      simp only [b1, b2, hr1, hr2, Option.bind_some, show (e != 0) = true from bne_iff_ne.2 he, cond_true, show (e == 0) = false from beq_false_of_ne he, show (x == 0) = false from beq_false_of_ne hx, beq_self_eq_true]
    · exact absurd q h'
    · exact absurd q h
  rcases Before_eq (N := 1000) (Nat.le_refl _) f g with ⟨q, -⟩ | ⟨-, b1⟩
  · exact absurd h q
  rcases Before_eq (N := 1000) (Nat.le_refl _) g f with ⟨q, -⟩ | ⟨-, b2⟩
  · exact absurd h.turn q
  rcases Front_eq (N := 1000) (Nat.le_refl _) f with ⟨q, -⟩ | ⟨-, p, p1, p2, p3, p4⟩
  · exact absurd h.1 q
  rcases Front_eq (N := 1000) (Nat.le_refl _) g with ⟨q, -⟩ | ⟨-, q, q1, q2, q3, q4⟩
  · exact absurd h.2.1 q
  have hfl := h.1.len
  have hgl := h.2.1.len
  have hpf : ∀ t ∈ p, t ∈ f := fun t ht => ((p3 t).1 ht).1
  have hqg : ∀ t ∈ q, t ∈ g := fun t ht => ((q3 t).1 ht).1
  have tp : TL p := h.1.of_mem (by omega) hpf
  have tq : TL q := h.2.1.of_mem (by omega) hqg
  have hpq : LL p q := ⟨tp, tq, fun a b => by
    have m1 := hpf _ (nth_mem (z := ([] : List Int)) a)
    have m2 := hqg _ (nth_mem (z := ([] : List Int)) b)
    rw [h.1.one _ m1, h.2.1.one _ m2]
    exact h.2.2 (List.length_pos_of_mem m1) (List.length_pos_of_mem m2)⟩
  rcases Before_eq (N := 1000) (Nat.le_refl _) p q with ⟨k, -⟩ | ⟨-, b3⟩
  · exact absurd hpq k
  have e1 := bef_front h.1 h.2.1 p3 q3
  have e2 := bef_front h.2.1 h.1 q3 p3
  have e3 := bef_both p2 q2 tp tq (isMin_self p3) (isMin_self q3)
  rw [e1, e2] at e3
  simp only [b1, b2, b3, p1, q1, Option.bind_some, bne_self_eq_false, cond_false, beq_self_eq_true, cond_true, e1, Lists_eq (N := 1000) (Nat.le_refl _) tp.len (fun t ht => (tok_len (tp.tok t ht)).2)]
  cases hb : bef f g with
  | true =>
    rw [hb] at e3
    simp only [cond_true]
    congr 2
    rw [show bef g f = decide (p = q) from by rw [Bool.eq_iff_iff, decide_eq_true_eq, ← e3]; simp]
    simp
  | false =>
    rw [hb] at e3
    simp only [cond_false]
    rw [show decide (p = q) = false from decide_eq_false fun e => by cases (e3.2 e).1]
    rfl
set_option maxRecDepth 100000 in
theorem lifted_TimesOrders (os : Os) (started : os.Started) (H : Type) (enc : TypeId × Value → H) :
    ReturnsInHanded {} Try.checked os 6 .any (Rows.timesOrdersSpec.pre6 enc Try.prog Try.f6 Rows.timesOrdersRow.domain false) (Rows.timesOrdersSpec.post enc Try.prog Try.f6 false true false false) := by
  refine returnsInHanded_of_change_sized (C := Try.checked) own started (by kernel_rfl) Try.func6
    (ChangeSpec.witness6 (enc := enc) (C := Try.checked) false ⟨#[], #[.slice none 0 0, .slice none 0 0], []⟩ 8 (by kernel_rfl) (by kernel_rfl) (by kernel_rfl) (by kernel_rfl)) ?_
  intro W base args ds gs before hval0 hW _ hsz0 _
  have hgw : GW [] W := fun _ h => nomatch h
  have hval : ∀ (j : Nat) t v, Try.f6.params[j]? = some t → args[j]? = some v → Value.okWide Try.prog W .any base t v := hval0
  have hW' := hW
  obtain ⟨p, q, hA0, hV, rfl, _, _⟩ := hW
  have hA : DataW.TrodAll enc Try.prog W 0 (fun _ => true) true Try.f6.params.toList args.toList ds p := hA0
  rw [Try.params6] at hA hval
  obtain ⟨v0, vs0, d0, ds0, p0, q0, hargs, rfl, rfl, h0, r0⟩ := trodAll_cons hA
  obtain ⟨v1, vs1, d1, ds1, p1, q1, rfl, rfl, rfl, h1, r1⟩ := trodAll_cons r0
  obtain ⟨rfl, rfl, rfl⟩ := trodAll_nil r1
  obtain rfl : args = #[v0, v1] := by cases args; simp_all
  obtain ⟨rfl, rfl⟩ := trodVars_none hV
  clear hA0 hval0 hsz0
  simp only [List.append_nil] at hW'
  have hlt0 : ∀ x ∈ p0, x.block < W.heap.size := fun x hx => hW'.lt x (by simp [hx])
  have hlt1 : ∀ x ∈ p1, x.block < W.heap.size := fun x hx => hW'.lt x (by simp [hx])
  obtain ⟨x0, g0, w0⟩ := open_kd (k := .dat (.sl (.sl (.int .i64)))) (by kernel_rfl) (hval 0 22 v0 rfl rfl) h0
  obtain ⟨x1, g1, w1⟩ := open_kd (k := .dat (.sl (.sl (.int .i64)))) (by kernel_rfl) (hval 1 22 v1 rfl rfl) h1
  obtain ⟨N, hN⟩ := law_TimesOrders x0 x1 w0 w1
  refine (sp_keep_TimesOrders N (fun _ => False) W (x0, x1, ()) (true, ()) [v0, v1] (fun _ h => h.elim) hgw ⟨v0, _, rfl, g0, ⟨v1, _, rfl, g1, rfl⟩⟩ hN).mono ?_
  rintro e W' ⟨v, rfl, hg, hr⟩
  replace hg := hg.old
  have hr : v = .bool true := by simpa only [kvals, retV, Kd.val, Go.Abs.enc, RV] using hr
  subst hr
  exact ⟨_, rfl, _, _, _, [], p0 ++ (p1 ++ []), [], hW', (trodAll_cons_mk (shut_bool (show Try.prog.underlying 4 = some .bool by kernel_rfl) _) trodAll_mk0), (trodAll_cons_mk (Below.trod laidOut (by kernel_rfl) (of_decide_eq_true (by kernel_rfl)) h0 hg hlt0) (trodAll_cons_mk (Below.trod laidOut (by kernel_rfl) (of_decide_eq_true (by kernel_rfl)) h1 hg hlt1) trodAll_mk0)), rfl, hg.frame _, fun h => by cases h⟩

/-- The statement: whatever the arguments, the law's function returns true and leaves them as they were. -/
theorem timesOrders_holds : Rows.TimesOrdersSaid :=
  OpenClaim.holds_of_wide 6 Try.f6 rfl rfl rfl rfl rfl rfl rfl ⟨rfl, rfl, rfl, rfl, rfl⟩ rfl rfl rfl rfl rfl (by kernel_rfl) Try.func6 (by kernel_rfl)
    (of_decide_eq_true (by kernel_rfl)) (by unfold Func.isWrapper; first | (rw [if_pos (by decide +kernel)]; kernel_rfl) | (rw [if_neg (by decide +kernel)]; exact ⟨rfl, rfl⟩))
    (fun os started H enc _ => lifted_TimesOrders os started H enc)
end Go.Proofs.Ytololihlpldcdaa
