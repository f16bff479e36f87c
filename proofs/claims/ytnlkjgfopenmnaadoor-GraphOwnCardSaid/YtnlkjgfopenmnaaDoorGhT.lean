/- graph: an order in which each node stands behind those that go to it. -/
import Derived.Test.YtnlkjgfopenmnaaDoorGhG
namespace Go.Proofs.YtnlkjgfopenmnaaDoor.Gh
open Go.Abs Go.Gr
/-- An edge from a node that is no feed. -/
def Fw (ns : List Nd) (es : List Ed) (b i : Nat) : Prop := ∃ e ∈ es, e.1 = (b : Int) ∧ e.2.1 = (i : Int) ∧ (nth z5 ns b).1 ≠ 6
section
variable {N : Nat} {ns : List Nd} {es : List Ed}
theorem Fw.lt (h : GrOk ns es) {b i : Nat} (hf : Fw ns es b i) : b < ns.length ∧ i < ns.length := by
  obtain ⟨e, he, e1, e2, -⟩ := hf
  obtain ⟨j, hj, rfl⟩ := mem_nth (z := z3) he
  have := h.edges j hj
  have a1 : (nth z3 es j).1 < ns.length := this.fn
  have a2 : (nth z3 es j).2.1 < ns.length := this.tn
  omega
/-- Among those that are left there is one to which none of these goes. -/
theorem ready (h : GrOk ns es) (S : Nat → Prop) (hS : ∀ i, S i → i < ns.length) (hne : ∃ i, S i) : ∃ i, S i ∧ ∀ b, Fw ns es b i → ¬ S b := by
  classical
  by_cases hcon : ∃ i, S i ∧ ∀ b, Fw ns es b i → ¬ S b
  · exact hcon
  exfalso
  have hpr : ∀ i, S i → ∃ b, Fw ns es b i ∧ S b := fun i hi => by
    by_cases q : ∃ b, Fw ns es b i ∧ S b
    · exact q
    · exact absurd ⟨i, hi, fun b hb hs => q ⟨b, hb, hs⟩⟩ hcon
  let P : Nat → Nat → Prop := fun a b => Fw ns es a b ∧ S a ∧ S b
  have hPn : ∀ {a b}, Pk P ns.length a b → S a ∧ S b ∧ (nth z5 ns a).1 ≠ 6 := by
    intro a b hp
    induction hp with
    | one h => exact ⟨h.2.1, h.2.2, by obtain ⟨e, -, e1, -, h6⟩ := h.1; exact h6⟩
    | cons h hm _ ih => exact ⟨h.2.1, ih.2.1, by obtain ⟨e, -, e1, -, h6⟩ := h.1; exact h6⟩
  let sz : Nat → Nat := fun i => ((List.range ns.length).filter fun b => decide (Pk P ns.length b i)).length
  obtain ⟨k, ⟨i, hi, hk⟩, hmin⟩ := least (p := fun k => ∃ i, S i ∧ sz i = k) (by obtain ⟨i, hi⟩ := hne; exact ⟨_, i, hi, rfl⟩)
  have hmut : ∀ b, Pk P ns.length b i → ∀ c, Pk P ns.length c i → Pk P ns.length c b := fun b hb c hc => by
    by_cases q : Pk P ns.length c b
    · exact q
    have hlt : sz b < sz i := Go.Abs.filter_lt (p := fun c => decide (Pk P ns.length c b)) (q := fun c => decide (Pk P ns.length c i)) (List.range ns.length) (fun x _ hx => decide_eq_true (Pk.trans (hS b (hPn hb).1) (of_decide_eq_true hx) hb))
      ⟨c, List.mem_range.2 (hS c (hPn hc).1), decide_eq_true hc, decide_eq_false q⟩
    have := hmin (sz b) ⟨b, (hPn hb).1, rfl⟩
    omega
  obtain ⟨b0, hb0, hb0s⟩ := hpr i hi
  obtain ⟨d, ⟨j, hj, hd⟩, hdmin⟩ := least (p := fun d => ∃ b, Pk P ns.length b i ∧ (deepOf ns b).toNat = d) ⟨_, b0, .one ⟨hb0, hb0s, hi⟩, rfl⟩
  have hjn := hS j (hPn hj).1
  have hin : ∀ b, Pk P ns.length b i → inB (deepOf ns j) (nth z5 ns b) = true := fun b hb => by
    have h1 := hdmin _ ⟨b, hb, rfl⟩
    have d1 := h.deep (hS b (hPn hb).1)
    have d2 := h.deep hjn
    have hle : deepOf ns j ≤ deepOf ns b := by omega
    unfold inB
    by_cases q : (nth z5 ns b).2.1 > deepOf ns j
    · rw [if_pos q]
    · rw [if_neg q]
      have e : (nth z5 ns b).2.1 = deepOf ns b := rfl
      rw [if_pos (by rw [e] at q ⊢; omega)]
      exact bne_iff_ne.2 (hPn hb).2.2
  have hgo : ∀ {a b}, Pk P ns.length a b → Pk P ns.length b i → Pk (EdG ns es (deepOf ns j)) ns.length a b := by
    intro a b hp
    induction hp with
    | one h =>
      intro hb
      obtain ⟨e, he, e1, e2, -⟩ := h.1
      exact .one ⟨e, he, e1, e2, hin _ (.cons h (hS _ h.2.2) hb), hin _ hb⟩
    | cons h hm hp ih =>
      intro hb
      obtain ⟨e, he, e1, e2, -⟩ := h.1
      have hmi := Pk.trans (hS _ (hPn hb).1) hp hb
      exact .cons ⟨e, he, e1, e2, hin _ (.cons h hm hmi), hin _ hmi⟩ hm (ih hb)
  have hc := hgo (hmut j hj j hj) hj
  exact h.rings j j hjn hjn ⟨hc, hc⟩
structure NOk (n : Nat) (P : Nat → Nat → Prop) (need : List Int) : Prop where
  len : need.length = n
  w : ∀ a, W32 (nth 0 need a)
  bit : ∀ a b, bt (nth 0 need a) b = true ↔ a < n ∧ b < n ∧ P b a
def FwM (ns : List Nd) (es : List Ed) (m b i : Nat) : Prop := ∃ j, j < m ∧ (nth z3 es j).1 = (b : Int) ∧ (nth z3 es j).2.1 = (i : Int) ∧ (nth z5 ns b).1 ≠ 6
/-- A list in which each stands behind those that go to it. -/
structure RkOk (ns : List Nd) (es : List Ed) (xs : List Nat) : Prop where
  nd : xs.Nodup
  lt : ∀ x ∈ xs, x < ns.length
  fw : ∀ t, t < xs.length → ∀ b, Fw ns es b (nth 0 xs t) → ∃ s, s < t ∧ nth 0 xs s = b
theorem nth_app {xs : List Nat} {x t : Nat} : nth 0 (xs ++ [x]) t = if t < xs.length then nth 0 xs t else if t = xs.length then x else 0 := by
  unfold nth
  simp only [List.getD_eq_getElem?_getD, List.getElem?_append]
  split
  · rfl
  · split
    · rename_i h; subst h; simp
    · rw [List.getElem?_eq_none (by simp; omega)]; rfl
theorem RkOk.push {xs : List Nat} {x : Nat} (h : RkOk ns es xs) (hx : x ∉ xs) (hn : x < ns.length) (hf : ∀ b, Fw ns es b x → b ∈ xs) : RkOk ns es (xs ++ [x]) where
  nd := List.nodup_append.2 ⟨h.nd, by simp, fun a ha b hb => by
    obtain rfl := List.mem_singleton.1 hb
    rintro rfl; exact hx ha⟩
  lt := fun y hy => by
    rcases List.mem_append.1 hy with hy | hy
    · exact h.lt y hy
    · obtain rfl := List.mem_singleton.1 hy; exact hn
  fw := fun t ht b hb => by
    rw [List.length_append, List.length_singleton] at ht
    rw [nth_app] at hb
    by_cases q : t < xs.length
    · rw [if_pos q] at hb
      obtain ⟨s, hs, e⟩ := h.fw t q b hb
      exact ⟨s, hs, by rw [nth_app, if_pos (by omega)]; exact e⟩
    · rw [if_neg q, if_pos (by omega)] at hb
      obtain ⟨s, hs, e⟩ := mem_nth (z := 0) (hf b hb)
      exact ⟨s, by omega, by rw [nth_app, if_pos hs]; exact e⟩
abbrev mx : Int := 4294967295
theorem mx_w : W32 mx := by unfold W32 mx; omega
theorem bt_mx {i : Nat} (hi : i < 32) : bt mx i = true := by
  have : ∀ i : Fin 32, bt mx i = true := by decide
  exact this ⟨i, hi⟩
/-- Which of some words has nothing outside another. -/
theorem first_eq (hN : 1000 ≤ N) {need : List Int} (hl : need.length ≤ 12) (there : Int) (hex : ∃ i, i < need.length ∧ iandNot .u32 (nth 0 need i) there = 0) :
    ∃ i : Nat, i < need.length ∧ iandNot .u32 (nth 0 need i) there = 0 ∧ D_slices_IndexFunc_Luint32_uint32_graph_Rank_c1 N (need, (there, ()), ()) = some ((i : Int), ()) := by
  simp only [D_slices_IndexFunc_Luint32_uint32_graph_Rank_c1, slices_IndexFunc_Luint32_uint32_graph_Rank_c1_3, joinD, loopE]
  have hb : ∀ (K : Unit → _) (i : Nat), i < need.length → ∀ kn, slices_IndexFunc_Luint32_uint32_graph_Rank_c1_2 N K need there (need.length : Int) (i : Int) (backE (need, there, (need.length : Int)) kn) = if iandNot .u32 (nth 0 need i) there = 0 then some ((i : Int), ()) else kn ((i : Int) + 1) := fun K i hi kn => by
    simp only [slices_IndexFunc_Luint32_uint32_graph_Rank_c1_2, lt_d hi, ge0_d, Int.toNat_natCast, Bool.and_self, cond_true, D_graph_Rank_c1, graph_Rank_c1_1, Option.bind_some, ix1 hi (show need.length ≤ 100000 by omega), backE_eq]
    by_cases q : iandNot .u32 (nth 0 need i) there = 0
    · rw [if_pos q, q]; rfl
    · rw [if_neg q, show (iandNot .u32 (nth 0 need i) there == 0) = false from beq_false_of_ne q]; rfl
  obtain ⟨i0, ⟨a1, a2⟩, a3⟩ := least hex
  refine ⟨i0, a1, a2, loopD_path i0 (fun i => (i : Int)) (fun i hi kn => ?_) (fun kn => ?_) (by omega)⟩
  · rw [hb _ i (by omega), if_neg (fun h => by have := a3 i ⟨by omega, h⟩; omega)]; rfl
  · rw [hb _ i0 a1, if_pos a2]
theorem rank4 (h : GrOk ns es) (k : _ → Option Rt_graph_Rank) {i : Nat} (hi : i < es.length) (need : List Int) (hl : need.length = ns.length) (a b c d : Int) (kn : _ → Option Rt_graph_Rank) {x : Ed} (hx : nth ((0 : Int), (0 : Int), (0 : Int)) es i = x) :
    graph_Rank_4 N k es (es.length : Int) ns es a b c d (i : Int) need kn = kn ((es, (es.length : Int), ns, es, a, b, c, d), ((i : Int) + 1, if (nth z5 ns x.1.toNat).1 ≠ 6 then need.set x.2.1.toNat (ior .u32 (nth 0 need x.2.1.toNat) (one x.1.toNat)) else need)) := by
  have hed : EdgeX ns es i x := hx ▸ h.edges i hi
  have := h.e20
  simp only [graph_Rank_4, lt_d hi, ge0_d, Bool.and_self, cond_true, Int.toNat_natCast, hx, hl, d_true hed.f0, d_true hed.fn, d_true hed.t0, d_true hed.tn, ix1 hi (show es.length ≤ 100000 by omega)]
  have ho : D_sets_One N (x.1, ()) = some (one x.1.toNat, ()) := by
    have := One_eq N x.1.toNat
    have f0 := hed.f0
    rwa [show ((x.1.toNat : Nat) : Int) = x.1 by omega] at this
  by_cases q : (nth z5 ns x.1.toNat).1 = 6
  · have e : (nth ((0 : Int), (0 : Int), (0 : Int), (0 : Int), (0 : Int)) ns x.1.toNat).1 = 6 := q
    rw [if_neg (fun h => h q), e]; rfl
  · have e : ((nth ((0 : Int), (0 : Int), (0 : Int), (0 : Int), (0 : Int)) ns x.1.toNat).1 != 6) = true := bne_iff_ne.2 q
    rw [if_pos q, e]
    simp only [cond_true, ho, Option.bind_some]
abbrev QT (ns : List Nd) (es : List Ed) (r : Option Rt_graph_Rank) : Prop := ∃ xs : List Nat, r = some (xs.map fun (x : Nat) => (x : Int), (0, 0), ()) ∧ xs.length = ns.length ∧ RkOk ns es xs
theorem Rank_ok (hN : 1000 ≤ N) (h : GrOk ns es) : QT ns es (D_graph_Rank N ((ns, es), ())) := by
  have hn := h.n12
  have he := h.e20
  obtain ⟨p, hp⟩ := Check_eq (N := N) hN ns es
  rw [codeG_zero.2 h] at hp
  simp only [D_graph_Rank, graph_Rank_5, hp, Option.bind_some, bne_self_eq_false, cond_false]
  rw [d_true (show (0 : Int) ≤ ns.length by omega), d_true (show ((ns.length : Int)) * 4 ≤ 281474976710656 by omega), d_true (Int.le_refl _), Bool.and_self, Bool.and_self, cond_true, Int.toNat_natCast]
  simp only [joinD, loopE]
  refine loopD_Q (QT ns es) es.length (fun i s => s.1 = (i : Int) ∧ NOk ns.length (FwM ns es i) s.2) ?_ ?_ (by omega) ⟨rfl, by simp, fun a => by rw [nth_rep]; exact W32.zero, fun a b => by
    rw [nth_rep, bt_zero]
    exact ⟨(fun h => by cases h), fun ⟨_, _, j, hj, _⟩ => absurd hj (Nat.not_lt_zero _)⟩⟩
  · rintro i ⟨_, need⟩ hi ⟨rfl, hne⟩ kn hk
    simp only at hne
    rw [rank4 h _ hi need hne.len 0 0 0 p _ (x := nth z3 es i) rfl, backE_eq]
    refine hk _ ⟨by simp, ?_⟩
    have hed := h.edges i hi
    have f0 : 0 ≤ (nth z3 es i).1 := hed.f0
    have fn : (nth z3 es i).1 < ns.length := hed.fn
    have t0 : 0 ≤ (nth z3 es i).2.1 := hed.t0
    have tn : (nth z3 es i).2.1 < ns.length := hed.tn
    have hx : ∀ a b, (FwM ns es (i + 1) b a ↔ FwM ns es i b a ∨ ((nth z3 es i).1 = (b : Int) ∧ (nth z3 es i).2.1 = (a : Int) ∧ (nth z5 ns b).1 ≠ 6)) := fun a b => by
      constructor
      · rintro ⟨j, hj, e⟩
        rcases Nat.lt_succ_iff_lt_or_eq.1 hj with h | rfl
        · exact .inl ⟨j, h, e⟩
        · exact .inr e
      · rintro (⟨j, hj, e⟩ | e)
        · exact ⟨j, by omega, e⟩
        · exact ⟨i, by omega, e⟩
    simp only
    by_cases q6 : (nth z5 ns (nth z3 es i).1.toNat).1 = 6
    · rw [if_neg (fun h => h q6)]
      refine ⟨hne.len, hne.w, fun a b => ?_⟩
      rw [hne.bit, hx]
      constructor
      · rintro ⟨h1, h2, h3⟩; exact ⟨h1, h2, .inl h3⟩
      · rintro ⟨h1, h2, h3 | ⟨e1, e2, e3⟩⟩
        · exact ⟨h1, h2, h3⟩
        · rw [e1, Int.toNat_natCast] at q6; exact absurd q6 e3
    · rw [if_pos q6]
      refine ⟨by simp [hne.len], fun a => ?_, fun a b => ?_⟩
      · rw [set_nth]; split
        · exact W32.ior
        · exact hne.w a
      · rw [set_nth, hx]
        have hb := hne.bit a b
        by_cases q : (nth z3 es i).2.1.toNat = a
        · subst q
          rw [if_pos ⟨rfl, by rw [hne.len]; omega⟩, bt_ior (hne.w _) (W32.one _), Bool.or_eq_true, hb, bt_one (by omega)]
          simp only [decide_eq_true_eq]
          constructor
          · rintro (⟨h1, h2, h3⟩ | rfl)
            · exact ⟨h1, h2, .inl h3⟩
            · exact ⟨by omega, by omega, .inr ⟨by omega, by omega, q6⟩⟩
          · rintro ⟨h1, h2, h3 | h3⟩
            · exact .inl ⟨h1, h2, h3⟩
            · exact .inr (by omega)
        · rw [if_neg (fun h => q h.1), hb]
          constructor
          · rintro ⟨h1, h2, h3⟩; exact ⟨h1, h2, .inl h3⟩
          · rintro ⟨h1, h2, h3 | h3⟩
            · exact ⟨h1, h2, h3⟩
            · exact absurd h3.2.1 (by omega)
  · rintro ⟨_, need⟩ ⟨rfl, hne⟩ kn
    simp only at hne
    have hfw : ∀ b a, FwM ns es es.length b a ↔ Fw ns es b a := fun b a => by
      constructor
      · rintro ⟨j, hj, e⟩; exact ⟨_, nth_mem hj, e⟩
      · rintro ⟨e, he, hh⟩
        obtain ⟨j, hj, rfl⟩ := mem_nth (z := z3) he
        exact ⟨j, hj, hh⟩
    simp only [graph_Rank_4, lt_self, cond_false, graph_Rank_3, joinD, loopE]
    refine loopD_Q (QT ns es) ns.length (fun i s => ∃ xs : List Nat, s.2.2 = xs.map (fun (x : Nat) => (x : Int)) ∧ xs.length = i ∧ RkOk ns es xs ∧ s.1.length = ns.length ∧ (∀ a, a ∈ xs → nth 0 s.1 a = mx) ∧ (∀ a, a ∉ xs → nth 0 s.1 a = nth 0 need a) ∧ W32 s.2.1 ∧ ∀ b, bt s.2.1 b = true ↔ b ∈ xs) ?_ ?_ (by omega) ?_
    · rintro i ⟨need', there, _⟩ hi ⟨xs, rfl, hxl, hrk, hl, hm1, hm2, hw, hbt⟩ kn hk
      simp only at hl hm1 hm2 hw hbt ⊢
      simp only [graph_Rank_2, List.length_map, hl, hxl, lt_d hi, cond_true]
      have hkey : ∀ a, a < ns.length → (iandNot .u32 (nth 0 need' a) there = 0 ↔ a ∉ xs ∧ ∀ b, Fw ns es b a → b ∈ xs) := fun a ha => by
        constructor
        · intro hz
          have hnx : a ∉ xs := fun hx => by
            have : bt (iandNot .u32 (nth 0 need' a) there) 31 = true := by
              rw [hm1 a hx, bt_iandNot mx_w hw, bt_mx (by omega), Bool.true_and, Bool.not_eq_true', ← Bool.not_eq_true, hbt]
              intro h31
              have := hrk.lt 31 h31
              omega
            rw [hz, bt_zero] at this; cases this
          refine ⟨hnx, fun b hb => ?_⟩
          by_cases q : b ∈ xs
          · exact q
          have : bt (iandNot .u32 (nth 0 need' a) there) b = true := by
            rw [hm2 a hnx, bt_iandNot (hne.w a) hw, Bool.and_eq_true, hne.bit, Bool.not_eq_true', ← Bool.not_eq_true, hbt]
            exact ⟨⟨ha, (Fw.lt h hb).1, (hfw b a).2 hb⟩, q⟩
          rw [hz, bt_zero] at this; cases this
        · rintro ⟨hnx, hf⟩
          refine bt_ext W32.iandNot W32.zero fun b _ => ?_
          rw [bt_zero, hm2 a hnx, bt_iandNot (hne.w a) hw]
          refine Bool.eq_false_iff.2 fun hh => ?_
          rw [Bool.and_eq_true, hne.bit, Bool.not_eq_true', ← Bool.not_eq_true, hbt] at hh
          exact hh.2 (hf b ((hfw b a).1 hh.1.2.2))
      obtain ⟨a0, ⟨s1, s2⟩, s3⟩ := ready h (fun a => a < ns.length ∧ a ∉ xs) (fun a ha => ha.1) (by
        by_cases q : ∃ a, a < ns.length ∧ a ∉ xs
        · exact q
        · have := (List.nodup_range (n := ns.length)).length_le_of_subset (l₂ := xs) fun a ha => by
            by_cases q' : a ∈ xs
            · exact q'
            · exact absurd ⟨a, List.mem_range.1 ha, q'⟩ q
          rw [List.length_range] at this
          omega)
      obtain ⟨r, r1, r2, r3⟩ := first_eq hN (need := need') (by omega) there ⟨a0, by omega, (hkey a0 s1).2 ⟨s2, fun b hb => by
        by_cases q : b ∈ xs
        · exact q
        · exact absurd ⟨(Fw.lt h hb).1, q⟩ (s3 b hb)⟩⟩
      rw [hl] at r1
      obtain ⟨k1, k2⟩ := (hkey r r1).1 r2
      simp only [r3, Option.bind_some, show D_sets_One N ((r : Int), ()) = some (one r, ()) from One_eq N r, ge0_d, lt_d r1, Bool.and_self, cond_true, List.length_singleton, Int.toNat_natCast, backE_eq]
      rw [d_true (show (i + 1) * 8 ≤ 140737488355328 by omega), show Nat.ble 1 8 = true from rfl, Bool.and_self, cond_true]
      refine hk _ ⟨xs ++ [r], by simp, by simp [hxl], hrk.push k1 r1 k2, by simp [hl], fun a ha => ?_, fun a ha => ?_, W32.ior, fun b => ?_⟩
      · simp only
        rw [set_nth]
        by_cases q : r = a
        · rw [if_pos ⟨q, by omega⟩]
        · rw [if_neg (fun h => q h.1)]
          rcases List.mem_append.1 ha with ha | ha
          · exact hm1 a ha
          · exact absurd (List.mem_singleton.1 ha).symm q
      · simp only
        rw [set_nth, if_neg (fun h => ha (by rw [← h.1]; simp))]
        exact hm2 a fun hx => ha (List.mem_append_left _ hx)
      · simp only
        rw [bt_ior hw (W32.one r), Bool.or_eq_true, hbt, bt_one (by omega), decide_eq_true_eq, List.mem_append, List.mem_singleton]
    · rintro ⟨need', there, _⟩ ⟨xs, rfl, hxl, hrk, hl, -⟩ kn
      simp only at hl
      simp only [graph_Rank_2, List.length_map, hl, hxl, lt_self, cond_false, graph_Rank_1]
      exact ⟨xs, rfl, hxl, hrk⟩
    · refine ⟨[], rfl, rfl, ⟨List.nodup_nil, (fun x hx => by cases hx), fun t ht => absurd ht (Nat.not_lt_zero _)⟩, hne.len, (fun a ha => by cases ha), fun a _ => rfl, W32.zero, fun b => ?_⟩
      simp only [bt_zero, List.not_mem_nil]
      exact ⟨(fun h => by cases h), False.elim⟩
theorem Rank_bad (hN : 1000 ≤ N) (h : codeG ns es ≠ 0) : ∃ p : Int, D_graph_Rank N ((ns, es), ()) = some ([], (codeG ns es, p), ()) := by
  obtain ⟨p, hp⟩ := Check_eq (N := N) hN ns es
  simp only [D_graph_Rank, graph_Rank_5, hp, Option.bind_some, show (codeG ns es != 0) = true from bne_iff_ne.2 h, cond_true]
  exact ⟨p, rfl⟩
end
end Go.Proofs.YtnlkjgfopenmnaaDoor.Gh
