/- polar: concepts. -/
import Derived.Test.YtkijpiphgnnonaaDoorPolarS
import Derived.Test.YtkijpiphgnnonaaDoorPolarP
import Derived.Test.YtkijpiphgnnonaaDoorAbsLat
namespace Go.Proofs.YtkijpiphgnnonaaDoor
open Go.Abs Go.Pol
theorem loopD_Q {R S : Type} {g : S → (S → Option R) → Option R} (Q : Option R → Prop) (n : Nat) (I : Nat → S → Prop) (h2 : ∀ i s, i < n → I i s → ∀ kn, (∀ s', I (i + 1) s' → Q (kn s')) → Q (g s kn))
    (h3 : ∀ s, I n s → ∀ kn, Q (g s kn)) {N : Nat} (hN : n < N) {s : S} (h0 : I 0 s) : Q (loopD g N s) := by
  have key : ∀ j i s M, i + j = n → I i s → j < M → Q (loopD g M s) := by
    intro j
    induction j with
    | zero =>
      rintro i s (_ | M) hi hI hM
      · omega
      · show Q (g s (loopD g M)); exact h3 s (by rw [← hi]; exact hI) _
    | succ j ih =>
      rintro i s (_ | M) hi hI hM
      · omega
      · show Q (g s (loopD g M))
        exact h2 i s (by omega) hI _ fun s' hs' => ih (i + 1) s' M (by omega) hs' (by omega)
  exact key n 0 s N (by omega) h0 hN
section
variable {rows : List Int} {n : Int}
def upf (rows : List Int) (n x : Int) : Int := (els x).foldl (fun w i => iand .u32 w (nth 0 rows i)) (allw n)
def dnf (rows : List Int) (n y : Int) : Int := (els y).foldl (fun w j => iand .u32 w (nth 0 (colsS rows n rows.length) j)) (allw (rows.length : Int))
def clf (rows : List Int) (n x : Int) : Int := dnf rows n (upf rows n x)
theorem upf_W (hw : WL rows) (x : Int) : W32 (upf rows n x) := (bt_shared hw (W32.allw n)).1
theorem dnf_W (y : Int) : W32 (dnf rows n y) := (bt_shared (WL.colsS rows n rows.length) (W32.allw _)).1
theorem bt_upf (hw : WL rows) (hc : ctxOk rows n) (x : Int) (j : Nat) : bt (upf rows n x) j = true ↔ j < n.toNat ∧ ∀ i, i < 32 → bt x i = true → bt (nth 0 rows i) j = true := by
  unfold upf
  rw [(bt_shared hw (W32.allw n)).2, bt_allw hc.2.1 (by have := hc.2.2.1; omega), decide_eq_true_eq]
  exact and_congr Iff.rfl ⟨fun h i hi hb => h i (mem_els'.2 ⟨hi, hb⟩), fun h i hi => h i (mem_els'.1 hi).1 (mem_els'.1 hi).2⟩
theorem bt_dnf (hc : ctxOk rows n) (y : Int) (i : Nat) : bt (dnf rows n y) i = true ↔ i < rows.length ∧ ∀ j, j < 32 → bt y j = true → j < n.toNat ∧ bt (nth 0 rows i) j = true := by
  unfold dnf
  rw [(bt_shared (WL.colsS rows n rows.length) (W32.allw _)).2, bt_allw (by omega) (by have := hc.1; omega), decide_eq_true_eq, Int.toNat_natCast]
  refine and_congr_right fun hi => ⟨fun h j hj hb => ?_, fun h j hj => ?_⟩
  · have := h j (mem_els'.2 ⟨hj, hb⟩)
    by_cases q : j < n.toNat
    · exact ⟨q, ((bt_cols hc q i).1 this).2⟩
    · rw [show nth 0 (colsS rows n rows.length) j = 0 from by unfold nth; rw [List.getD_eq_getElem?_getD, List.getElem?_eq_none (by rw [colsS_len]; omega)]; rfl, bt_zero] at this
      cases this
  · obtain ⟨h1, h2⟩ := h j (mem_els'.1 hj).1 (mem_els'.1 hj).2
    exact (bt_cols hc h1 i).2 ⟨hi, h2⟩
theorem up_dn (hw : WL rows) (hc : ctxOk rows n) {x : Int} (hx : ∀ i, bt x i = true → i < rows.length) : upf rows n (clf rows n x) = upf rows n x := by
  have h16 := hc.1
  refine bt_ext (upf_W hw _) (upf_W hw _) fun j _ => ?_
  rw [Bool.eq_iff_iff, bt_upf hw hc, bt_upf hw hc]
  refine and_congr_right fun hj => ⟨fun h i hi hb => ?_, fun h i hi hb => ?_⟩
  · refine h i hi ((bt_dnf hc _ i).2 ⟨hx i hb, fun j' hj' hb' => ?_⟩)
    obtain ⟨a, b⟩ := (bt_upf hw hc x j').1 hb'
    exact ⟨a, b i hi hb⟩
  · obtain ⟨a, b⟩ := (bt_dnf hc _ i).1 hb
    have hn := hc.2.2.1
    exact (b j (by omega) ((bt_upf hw hc x j).2 ⟨hj, h⟩)).2
theorem clf_clo (hw : WL rows) (hc : ctxOk rows n) : Clo rows.length (clf rows n) where
  w := fun x => dnf_W _
  lt := fun x i h => ((bt_dnf hc _ i).1 h).1
  ext := fun x hx i hb => (bt_dnf hc _ i).2 ⟨hx i hb, fun j hj h => by
    obtain ⟨a, b⟩ := (bt_upf hw hc x j).1 h
    exact ⟨a, b i (by have := hx i hb; have := hc.1; omega) hb⟩⟩
  mono := fun x y hs i hb => by
    obtain ⟨a, b⟩ := (bt_dnf hc _ i).1 hb
    refine (bt_dnf hc _ i).2 ⟨a, fun j hj h => ?_⟩
    obtain ⟨c, d⟩ := (bt_upf hw hc y j).1 h
    exact b j hj ((bt_upf hw hc x j).2 ⟨c, fun i' hi' h' => d i' hi' (hs i' h')⟩)
  idem := fun x hx => by
    show dnf rows n (upf rows n (clf rows n x)) = dnf rows n (upf rows n x)
    rw [up_dn hw hc hx]
theorem up_eq {N : Nat} (hw : WL rows) (hc : ctxOk rows n) {x : Int} (hx : W32 x) (hxs : ∀ i, bt x i = true → i < rows.length) : D_polar_sides_up N ((rows, colsS rows n rows.length), x, ()) = some (upf rows n x, ()) := by
  have hl : ((colsS rows n rows.length).length : Int) = n := by rw [colsS_len]; have := hc.2.1; omega
  simp only [D_polar_sides_up, polar_sides_up_1, hl, shared_eq N hw hx hc.2.1 hxs, Option.bind_some]
  rfl
theorem dn_eq {N : Nat} {y : Int} (hy : W32 y) (hys : ∀ j, bt y j = true → j < n.toNat) : D_polar_sides_down N ((rows, colsS rows n rows.length), y, ()) = some (dnf rows n y, ()) := by
  simp only [D_polar_sides_down, polar_sides_down_1, shared_eq N (WL.colsS rows n rows.length) hy (show (0 : Int) ≤ (rows.length : Int) by omega) (by rw [colsS_len]; exact hys), Option.bind_some]
  rfl
theorem agr_iff {a b : Int} (ha : W32 a) (hb : W32 b) {i : Nat} (hi : i < 16) : (iandNot .u32 a (allw ((i + 1 : Nat) : Int)) == iandNot .u32 b (allw ((i + 1 : Nat) : Int))) = true ↔ agr a b i := by
  have hbt : ∀ {x : Int}, W32 x → ∀ j, bt (iandNot .u32 x (allw ((i + 1 : Nat) : Int))) j = (bt x j && decide (i < j)) := fun {x} hx j => by
    rw [bt_iandNot hx (W32.allw _), Bool.eq_iff_iff, Bool.and_eq_true, Bool.and_eq_true, Bool.not_eq_true', Bool.eq_false_iff, ne_eq, bt_allw (by omega) (by omega), decide_eq_true_eq, decide_eq_true_eq, Int.toNat_natCast]
    exact and_congr Iff.rfl (by omega)
  rw [beq_iff_eq]
  refine ⟨fun h j hj => ?_, fun h => bt_ext W32.iandNot W32.iandNot fun j _ => ?_⟩
  · have := congrArg (fun w => bt w j) h
    simp only [hbt ha, hbt hb, decide_eq_true hj, Bool.and_true] at this
    exact this
  · rw [hbt ha, hbt hb]
    by_cases q : i < j
    · rw [h j q]
    · rw [decide_eq_false q, Bool.and_false, Bool.and_false]
theorem step_eq {N : Nat} (hN : 1000 ≤ N) (hw : WL rows) (hc : ctxOk rows n) {a : Int} (ha : Cls rows.length (clf rows n) a) :
    (∃ i, i < rows.length ∧ bt a i = false ∧ agr (clf rows n (bas a i)) a i ∧ (∀ j, j < i → bt a j = false → ¬ agr (clf rows n (bas a j)) a j) ∧ D_polar_sides_step N ((rows, colsS rows n rows.length), a, ()) = some (clf rows n (bas a i), true, ())) ∨
    ((∀ j, j < rows.length → bt a j = false → ¬ agr (clf rows n (bas a j)) a j) ∧ D_polar_sides_step N ((rows, colsS rows n rows.length), a, ()) = some (0, false, ())) := by
  classical
  have h16 := hc.1
  have hcl := clf_clo hw hc
  simp only [D_polar_sides_step, polar_sides_step_3, joinD, loopE]
  have hbody : ∀ i, i < rows.length → ∀ kn, polar_sides_step_2 N (fun _s => polar_sides_step_1 N) a (rows.length : Int) rows (colsS rows n rows.length) (i : Int) (backE (a, (rows.length : Int), rows, colsS rows n rows.length) kn) = if bt a i = false ∧ agr (clf rows n (bas a i)) a i then some (clf rows n (bas a i), true, ()) else kn ((i : Int) + 1) := fun i hi kn => by
    have e1 : IntKind.i64.wrap ((i : Int) + 1) = ((i + 1 : Nat) : Int) := by rw [w64 (by omega) (by omega)]; omega
    have hb : ∀ j, bt (bas a i) j = true → j < rows.length := fun j hj => by
      by_cases q : bt a i = false
      · rcases (bt_bas h16 ha.w hi q j).1 hj with h | rfl
        · exact ha.lt j h.2
        · exact hi
      · unfold bas at hj
        rw [bt_ior W32.iandNot (W32.one i), bt_iandNot ha.w (W32.allw _), bt_one (by omega), Bool.or_eq_true, Bool.and_eq_true, decide_eq_true_eq] at hj
        rcases hj with h | rfl
        · exact ha.lt j h.1
        · exact hi
    simp only [polar_sides_step_2, d_true (show (i : Int) < (rows.length : Int) by omega), cond_true, Has_eq N ha.w i, Option.bind_some, All_eq N (show (0 : Int) ≤ (i : Int) by omega), One_eq N i, e1, All_eq N (show (0 : Int) ≤ ((i + 1 : Nat) : Int) by omega), backE_eq]
    cases q : bt a i with
    | true => rw [cond_true, if_neg (fun h => by cases h.1)]; rfl
    | false =>
      rw [cond_false, show ior .u32 (iandNot .u32 a (allw (i : Int))) (Go.Abs.one i) = bas a i from rfl, up_eq (N := N) hw hc (show W32 (bas a i) from W32.ior) hb]
      simp only [Option.bind_some]
      rw [dn_eq (N := N) (rows := rows) (upf_W hw _) fun j h => ((bt_upf hw hc _ j).1 h).1]
      simp only [Option.bind_some]
      have hag := agr_iff (hcl.w (bas a i)) ha.w (show i < 16 by omega)
      by_cases q2 : agr (clf rows n (bas a i)) a i
      · rw [if_pos ⟨by simp, q2⟩]
        have := hag.2 q2
        rw [show (iandNot .u32 (dnf rows n (upf rows n (bas a i))) (allw ((i + 1 : Nat) : Int)) == iandNot .u32 a (allw ((i + 1 : Nat) : Int))) = true from this, cond_true]
        rfl
      · rw [if_neg fun h => q2 h.2, show (iandNot .u32 (dnf rows n (upf rows n (bas a i))) (allw ((i + 1 : Nat) : Int)) == iandNot .u32 a (allw ((i + 1 : Nat) : Int))) = false from Bool.eq_false_iff.2 fun h => q2 (hag.1 h), cond_false]
        rfl
  by_cases hex : ∃ i, i < rows.length ∧ (bt a i = false ∧ agr (clf rows n (bas a i)) a i)
  · obtain ⟨i, h1, h2, h3⟩ : ∃ i, i < rows.length ∧ (bt a i = false ∧ agr (clf rows n (bas a i)) a i) ∧ ∀ j, j < i → ¬ (bt a j = false ∧ agr (clf rows n (bas a j)) a j) := by
      have key : ∀ d i, i < d → i < rows.length → (bt a i = false ∧ agr (clf rows n (bas a i)) a i) → ∃ i, i < rows.length ∧ (bt a i = false ∧ agr (clf rows n (bas a i)) a i) ∧ ∀ j, j < i → ¬ (bt a j = false ∧ agr (clf rows n (bas a j)) a j) := by
        intro d
        induction d with
        | zero => intro i h; omega
        | succ d ih =>
          intro i hi hl hp
          by_cases q : ∃ j, j < i ∧ (bt a j = false ∧ agr (clf rows n (bas a j)) a j)
          · obtain ⟨j, hj, hp'⟩ := q
            exact ih j (by omega) (by omega) hp'
          · exact ⟨i, hl, hp, fun j hj hp' => q ⟨j, hj, hp'⟩⟩
      obtain ⟨i, h1, h2⟩ := hex
      exact key (i + 1) i (by omega) h1 h2
    refine .inl ⟨i, h1, h2.1, h2.2, fun j hj hb hg => h3 j hj ⟨hb, hg⟩, ?_⟩
    refine loopD_const (fun s => ∃ t : Nat, s = (t : Int) ∧ t ≤ i) (fun s => rows.length - s.toNat) _ ?_ N _ ⟨0, rfl, Nat.zero_le _⟩ (by simp; omega)
    rintro s ⟨t, rfl, ht⟩ kn hkn
    by_cases q : t = i
    · subst q; rw [hbody t h1, if_pos h2]
    · rw [hbody t (by omega), if_neg (h3 t (by omega))]
      exact hkn _ ⟨t + 1, by simp, by omega⟩ (by simp; omega)
  · refine .inr ⟨fun j hj hb hg => hex ⟨j, hj, hb, hg⟩, ?_⟩
    refine loopD_pass (n := rows.length) (by omega) (fun i hi kn => ?_) (fun kn => ?_) (by omega)
    · rw [hbody i hi, if_neg fun h => hex ⟨i, hi, h⟩]
    · simp only [polar_sides_step_2, d_false (show ¬ (rows.length : Int) < (rows.length : Int) by omega), cond_false, polar_sides_step_1]
/-! ### All concepts -/
abbrev cpr (rows : List Int) (n : Int) (w : Int) : Int × Int := (w, upf rows n w)
/-- A list of concepts, each once, by their rows. -/
structure Cps (rows : List Int) (n : Int) (ws : List Int) (l : List (Int × Int)) : Prop where
  nd : ws.Nodup
  all : ∀ b, b ∈ ws ↔ Cls rows.length (clf rows n) b
  mem : ∀ p, p ∈ l ↔ ∃ b, b ∈ ws ∧ p = cpr rows n b
  len : l.length = ws.length
  few : ws.length ≤ 256
  pm : l.Perm (ws.map (cpr rows n))
theorem Cmpu_eq (N : Nat) (x y : Int) : D_cmp_Compare_uint32 N (x, y, ()) = some (if x < y then -1 else if y < x then 1 else 0, ()) := by
  simp only [D_cmp_Compare_uint32, cmp_Compare_uint32_1, D_cmp_isNaN_uint32, cmp_isNaN_uint32_1, bne_self_eq_false, Option.bind_some, cond_false]
  by_cases h1 : x < y
  · simp [h1]
  · by_cases h2 : y < x <;> simp [h1, h2]
theorem Cc_eq (N : Nat) (p q : Int × Int) : D_polar_Concepts_c1 N (p, q, ()) = some (if p.1 < q.1 then -1 else if q.1 < p.1 then 1 else 0, ()) := by
  simp only [D_polar_Concepts_c1, polar_Concepts_c1_1, Cmpu_eq N p.1 q.1, Option.bind_some]
abbrev rowD (p q : Int × Int) : Option Int := some (if p.1 < q.1 then -1 else if q.1 < p.1 then 1 else 0)
theorem row_ltB (p q : Int × Int) : ltB rowD p q = decide (p.1 < q.1) := by
  show decide ((if p.1 < q.1 then (-1 : Int) else if q.1 < p.1 then 1 else 0) < 0) = _
  by_cases h1 : p.1 < q.1
  · simp [h1]
  · by_cases h2 : q.1 < p.1 <;> simp [h1, h2]
theorem row_ok (f : Int → Int) (xs : List (Int × Int)) (hf : ∀ p ∈ xs, p.2 = f p.1) (h : xs.length < 4611686018427387904) : SortOk rowD xs where
  lt := h
  tot := fun a _ b _ => ⟨_, rfl⟩
  irrefl := fun a _ => by rw [row_ltB]; exact decide_eq_false (by omega)
  trans := fun a _ b _ c _ h1 h2 => by
    rw [row_ltB, decide_eq_true_eq] at *
    omega
  anti := fun a ha b hb h1 h2 => by
    rw [row_ltB, decide_eq_false_iff_not] at *
    have : a.1 = b.1 := by omega
    exact Prod.ext this (by rw [hf a ha, hf b hb, this])
theorem concepts_eq {N : Nat} (hN : 1000 ≤ N) (hw : WL rows) (hc : ctxOk rows n) :
    (∃ ws : List Int, ws.Nodup ∧ (∀ b ∈ ws, Cls rows.length (clf rows n) b) ∧ ws.length = 257 ∧ D_polar_Concepts N ((rows, n), ()) = some ([], 1, ())) ∨
    (∃ ws l, Cps rows n ws l ∧ D_polar_Concepts N ((rows, n), ()) = some (l, 0, ())) := by
  have h16 := hc.1
  have hcl := clf_clo hw hc
  have ho := openS_pos hc
  simp only [D_polar_Concepts, polar_Concepts_3, open_eq hw n (show rows.length < N by omega), ho, Option.bind_some, bne_self_eq_false, cond_false, joinD]
  have h0 : ∀ i, bt 0 i = true → i < rows.length := fun i h => by rw [bt_zero] at h; cases h
  rw [up_eq (N := N) hw hc W32.zero h0]
  simp only [Option.bind_some]
  rw [dn_eq (N := N) (rows := rows) (upf_W hw _) fun j h => ((bt_upf hw hc _ j).1 h).1]
  simp only [Option.bind_some, loopE]
  obtain ⟨f1, f2⟩ := first_cls hcl
  refine loopD_Q (fun r => (∃ ws : List Int, ws.Nodup ∧ (∀ b ∈ ws, Cls rows.length (clf rows n) b) ∧ ws.length = 257 ∧ r = some ([], 1, ())) ∨ (∃ ws l, Cps rows n ws l ∧ r = some (l, 0, ()))) 258
    (fun t s => ∃ ws : List Int, s.2.2 = ws.map (cpr rows n) ∧ ws.length ≤ 256 ∧ ws.Nodup ∧ (∀ b ∈ ws, Cls rows.length (clf rows n) b) ∧
      ((s.2.1 = true ∧ ws.length = t ∧ Cls rows.length (clf rows n) s.1 ∧ (∀ b ∈ ws, lx b s.1) ∧ ∀ b, Cls rows.length (clf rows n) b → b ∈ ws ∨ b = s.1 ∨ lx s.1 b) ∨
       (s.2.1 = false ∧ ws.length + 1 = t + 1 ∧ ∀ b, Cls rows.length (clf rows n) b → b ∈ ws))) ?_ ?_ (by omega)
    ⟨[], rfl, by simp, List.nodup_nil, fun b hb => (by cases hb), Or.inl ⟨rfl, rfl, f1, fun b hb => (by cases hb), fun b hb => Or.inr (f2 b hb)⟩⟩
  · rintro t ⟨w, ok, l⟩ ht ⟨ws, hl, hlen, hnd, hall, hcase⟩ kn hk
    simp only at hl hcase
    subst hl
    rcases hcase with ⟨rfl, hlt, hcw, hlow, hcov⟩ | ⟨rfl, hlt, hcov⟩
    · simp only [polar_Concepts_2, cond_true]
      have hnew : w ∉ ws := fun h => lx_irr (hlow w h)
      by_cases h256 : ws.length = 256
      · rw [show (((ws.map (cpr rows n)).length : Int) == 256) = true from beq_iff_eq.2 (by simp; omega), cond_true]
        exact .inl ⟨w :: ws, List.nodup_cons.2 ⟨hnew, hnd⟩, fun b hb => (List.mem_cons.1 hb).elim (fun e => e ▸ hcw) (hall b), by simp; omega, rfl⟩
      · rw [show (((ws.map (cpr rows n)).length : Int) == 256) = false from beq_false_of_ne (by simp; omega), cond_false, up_eq (N := N) hw hc hcw.w hcw.lt]
        simp only [Option.bind_some]
        rw [d_true (by simp only [List.length_map, List.length_singleton]; omega), show Nat.ble 1 8 = true from rfl, Bool.and_self, cond_true]
        have hmap : ws.map (cpr rows n) ++ [(w, upf rows n w)] = (ws ++ [w]).map (cpr rows n) := by simp
        have hnd2 : (ws ++ [w]).Nodup := List.nodup_append.2 ⟨hnd, by simp, fun a ha b hb e => by rw [List.mem_singleton] at hb; subst hb; subst e; exact hnew ha⟩
        have hall2 : ∀ b ∈ ws ++ [w], Cls rows.length (clf rows n) b := fun b hb => by
          rcases List.mem_append.1 hb with h | h
          · exact hall b h
          · rw [List.mem_singleton] at h; subst h; exact hcw
        rcases step_eq hN hw hc hcw with ⟨i, i1, i2, i3, i4, e⟩ | ⟨i1, e⟩
        · rw [e]
          simp only [Option.bind_some, backE_eq, hmap]
          obtain ⟨s1, s2, s3⟩ := step_ok h16 hcl hcw i1 i2 i3 i4
          refine hk _ ⟨ws ++ [w], rfl, by simp; omega, hnd2, hall2, Or.inl ⟨rfl, by simp; omega, s1, fun b hb => ?_, fun b hb => ?_⟩⟩
          · rcases List.mem_append.1 hb with h | h
            · exact lx_trans (hlow b h) s2
            · rw [List.mem_singleton] at h; subst h; exact s2
          · rcases hcov b hb with h | h | h
            · exact .inl (List.mem_append_left _ h)
            · exact .inl (List.mem_append_right _ (List.mem_singleton.2 h))
            · exact .inr (s3 b hb h)
        · rw [e]
          simp only [Option.bind_some, backE_eq, hmap]
          refine hk _ ⟨ws ++ [w], rfl, by simp; omega, hnd2, hall2, Or.inr ⟨rfl, by simp; omega, fun b hb => ?_⟩⟩
          rcases hcov b hb with h | h | h
          · exact List.mem_append_left _ h
          · exact List.mem_append_right _ (List.mem_singleton.2 h)
          · exact absurd h (step_no h16 hcl hcw i1 hb)
    · simp only [polar_Concepts_2, cond_false, polar_Concepts_1]
      have hfs : ∀ p ∈ ws.map (cpr rows n), p.2 = upf rows n p.1 := fun p hp => by
        obtain ⟨b, _, rfl⟩ := List.mem_map.1 hp
        rfl
      obtain ⟨ys, y1, y2⟩ := sortR_ok (row_ok (upf rows n) (ws.map (cpr rows n)) hfs (by simp; omega))
      have hsort : sortR (fun p q => (D_polar_Concepts_c1 N (p, q, ())).map (·.1)) (ws.map (cpr rows n)) = some ys := by
        rw [← y1]
        congr 1
        funext p q
        rw [Cc_eq N p q]; rfl
      rw [hsort]
      refine .inr ⟨ws, ys, ⟨hnd, fun b => ⟨hall b, hcov b⟩, fun p => ?_, ?_, hlen, y2.1⟩, rfl⟩
      · rw [y2.1.mem_iff, List.mem_map]
        exact ⟨fun ⟨b, h1, h2⟩ => ⟨b, h1, h2.symm⟩, fun ⟨b, h1, h2⟩ => ⟨b, h1, h2.symm⟩⟩
      · rw [y2.1.length_eq, List.length_map]
  · rintro ⟨w, ok, l⟩ ⟨ws, hl, hlen, hnd, hall, hcase⟩ kn
    rcases hcase with ⟨_, h, _⟩ | ⟨_, h, _⟩ <;> omega
end
end Go.Proofs.YtkijpiphgnnonaaDoor
