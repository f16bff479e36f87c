/- fixed.Adjoint: the way back of a map that keeps joins. -/
import Derived.Test.YtdbjfdjpmoackaaDoorAdjoint
import Derived.Test.YtdbjfdjpmoackaaDoorMapS
import Derived.Test.YtdbjfdjpmoackaaDoorTableS
import Derived.Test.YtdbjfdjpmoackaaDoorAbsLat
namespace Go.Proofs.YtdbjfdjpmoackaaDoor
open Go.Abs
theorem nth_castN {l : List Nat} {i : Nat} (h : i < l.length) : nth 0 (l.map fun (i : Nat) => (i : Int)) i = ((nth 0 l i : Nat) : Int) := by
  rw [nth_lt (by simpa using h), nth_lt h]; simp
section
variable {m : Nat} {L : Nat → Nat → Prop} {J K : Nat → Nat → Nat} {b t : Nat} (h : Latt m L J K b t)
include h
theorem foldl_lt (l : List Nat) (hl : ∀ x ∈ l, x < m) {s : Nat} (hs : s < m) : l.foldl J s < m := by
  induction l generalizing s with
  | nil => exact hs
  | cons x l ih => exact ih (fun y hy => hl y (by simp [hy])) (h.jlt s x hs (hl x (by simp)))
theorem foldl_le (l : List Nat) (hl : ∀ x ∈ l, x < m) {s : Nat} (hs : s < m) {d : Nat} (hd : d < m) : L (l.foldl J s) d ↔ L s d ∧ ∀ x ∈ l, L x d := by
  induction l generalizing s with
  | nil => simp
  | cons x l ih =>
    rw [List.foldl_cons, ih (fun y hy => hl y (by simp [hy])) (h.jlt s x hs (hl x (by simp))), h.jle s x d hs (hl x (by simp)) hd]
    simp only [List.mem_cons, forall_eq_or_imp, and_assoc]
theorem foldl_hom {J' : Nat → Nat → Nat} {f : Nat → Nat} (hf : ∀ x y, x < m → y < m → f (J x y) = J' (f x) (f y)) (l : List Nat) (hl : ∀ x ∈ l, x < m) {s : Nat} (hs : s < m) : f (l.foldl J s) = (l.map f).foldl J' (f s) := by
  induction l generalizing s with
  | nil => rfl
  | cons x l ih =>
    rw [List.foldl_cons, ih (fun y hy => hl y (by simp [hy])) (h.jlt s x hs (hl x (by simp))), hf s x hs (hl x (by simp)), List.map_cons, List.foldl_cons]
end
/-- What of a lattice is mapped below an element. -/
def underL (m : Nat) (up' f : List Int) (y i : Nat) : List Nat := (List.range i).filter fun x => bt (nth 0 up' (fm f x)) y
/-- What an element becomes on the way back. -/
def backG (m : Nat) (J up' f : List Int) (b y : Nat) : Nat := (underL m up' f y m).foldl (jo m J) b
theorem under_lt {m : Nat} {up' f : List Int} {y i : Nat} : ∀ x ∈ underL m up' f y i, x < i := fun x hx => List.mem_range.1 (List.mem_filter.1 hx).1
/-- Does a map keep joins? -/
structure Keeps (m q : Nat) (f J J' : List Int) (b b' : Nat) : Prop where
  len : f.length = m
  all : allIn (q : Int) f
  bot : fm f b = b'
  join : ∀ a c, a < m → c < m → fm f (jo m J a c) = jo q J' (fm f a) (fm f c)
theorem fold_eq {N m : Nat} (hN : 1000 ≤ N) (hm : m ≤ 16) {up J M : List Int} {B T : Int} (hL : IsLat m up J M B T) {s : Nat} (hs : s < m) (l : List Nat) (hl : ∀ x ∈ l, x < m) (hlen : l.length ≤ 16) :
    D_lattice_fold_lattice_Table_Or N ((s : Int), (((m : Int), up), (J, (M, (B, T)))), l.map (fun (i : Nat) => (i : Int)), ()) = some (((l.foldl (jo m J) s : Nat) : Int), ()) := by
  simp only [D_lattice_fold_lattice_Table_Or, lattice_fold_lattice_Table_Or_9, lattice_fold_lattice_Table_Or_8, lattice_fold_lattice_Table_Or_6, lattice_fold_lattice_Table_Or_5, lattice_fold_lattice_Table_Or_2, lattice_fold_lattice_Table_Or_1]
  unfold lattice_fold_lattice_Table_Or_4
  have hll : (l.map fun (i : Nat) => (i : Int)).length = l.length := by simp
  refine loopD_path (N := N) l.length (fun i => ((((l.take i).foldl (jo m J) s : Nat) : Int), (i : Int))) (fun i hi kn => ?_) (fun kn => ?_) (by omega)
  · have h1 : (l.take i).foldl (jo m J) s < m := foldl_lt hL.lat _ (fun x hx => hl x (List.mem_of_mem_take hx)) hs
    have h2 := hl _ (nth_mem (z := 0) hi)
    have h3 : (l.take (i + 1)).foldl (jo m J) s = jo m J ((l.take i).foldl (jo m J) s) (nth 0 l i) := by
      rw [List.take_succ_eq_append_getElem hi, List.foldl_append, nth_lt hi]; rfl
    simp only [lattice_fold_lattice_Table_Or_3, hll, lt_d hi, ge0_d, Bool.and_self, cond_true, Int.toNat_natCast, nth_castN hi, tor_eq hL hm _ _ h1 h2, Option.bind_some, w64 (show -9223372036854775808 ≤ (i : Int) + 1 by omega) (show (i : Int) + 1 ≤ 9223372036854775807 by omega), h3]
    rfl
  · simp only [lattice_fold_lattice_Table_Or_3, hll, lt_self, cond_false, lattice_fold_lattice_Table_Or_7, List.take_length]
theorem Joins_eq {N m : Nat} (hN : 1000 ≤ N) (hm : m ≤ 16) {up J M : List Int} {b : Nat} {T : Int} (hL : IsLat m up J M (b : Int) T) (l : List Nat) (hl : ∀ x ∈ l, x < m) (hlen : l.length ≤ 16) :
    D_lattice_Table_Joins N ((((m : Int), up), (J, (M, ((b : Int), T)))), l.map (fun (i : Nat) => (i : Int)), ()) = some (((l.foldl (jo m J) b : Nat) : Int), ()) := by
  have hb := hL.lat.blt
  simp only [Int.toNat_natCast] at hb
  simp only [D_lattice_Table_Joins, lattice_Table_Joins_1, fold_eq hN hm hL hb l hl hlen, Option.bind_some]
section
variable {N m q : Nat} (hN : 1000 ≤ N) (hm : m ≤ 16) (hq : q ≤ 16) {up J M up' J' M' f : List Int} {b t b' t' : Nat} (hL : IsLat m up J M (b : Int) (t : Int)) (hL' : IsLat q up' J' M' (b' : Int) (t' : Int)) (hlen : f.length = m) (hall : allIn (q : Int) f)
include hN hm hq hL hL' hlen hall
theorem adj23 : ∃ ks : Bool, (ks = true ↔ Keeps m q f J J' b b') ∧ ∀ k, fixed_Adjoint_23 N f (m : Int) up J M (b : Int) (t : Int) (q : Int) up' J' M' (b' : Int) (t' : Int) k = k ks := by
  have l := hL.lat
  have hbl := l.blt
  simp only [Int.toNat_natCast] at hbl
  have hv : ∀ i, i < m → nth 0 f i = ((fm f i : Nat) : Int) := fun i hi => (hall.at (by omega)).1
  have hlt : ∀ i, i < m → fm f i < q := fun i hi => (hall.at (by omega)).2
  have h14 : ∀ a, a < m → ∀ a0 : Bool, ∃ ks : Bool, (ks = true ↔ a0 = true ∧ ∀ c, c < a → fm f (jo m J a c) = jo q J' (fm f a) (fm f c)) ∧ ∀ k, fixed_Adjoint_14 N f (m : Int) up J M (b : Int) (t : Int) (q : Int) up' J' M' (b' : Int) (t' : Int) a0 (a : Int) k = k ks := fun a ha a0 => by
    unfold fixed_Adjoint_14
    refine flag_loop (fun (k : Bool → Option Rt_fixed_Adjoint) (s : Bool × Int) kn => fixed_Adjoint_13 N f (m : Int) up J M (b : Int) (t : Int) (q : Int) up' J' M' (b' : Int) (t' : Int) (a : Int) s.1 s.2 (fun v31 v32 => kn (v31, v32)) k) (fun k a => k a) a _ (fun c v hca => ?_) (fun v k kn => ?_) (by omega) a0
    · have hc : c < m := by omega
      have hj := l.jlt a c ha hc
      cases v with
      | false => exact ⟨false, by simp, fun k kn => by simp only [fixed_Adjoint_13, lt_d hca, cond_true, cond_false, w1 hm hc]⟩
      | true =>
        refine ⟨((((fm f (jo m J a c) : Nat) : Int)) == ((jo q J' (fm f a) (fm f c) : Nat) : Int)), by rw [beq_iff_eq, Int.ofNat_inj]; simp, fun k kn => ?_⟩
        simp only [fixed_Adjoint_13, lt_d hca, cond_true, tor_eq hL hm a c ha hc, Option.bind_some, ge0_d, lt_d (show jo m J a c < f.length by omega), lt_d (show a < f.length by omega), lt_d (show c < f.length by omega), Bool.and_self, Int.toNat_natCast, hv a ha, hv c hc, hv _ hj, tor_eq hL' hq _ _ (hlt a ha) (hlt c hc), w1 hm hc]
    · simp only [fixed_Adjoint_13, lt_self, cond_false]
  unfold fixed_Adjoint_23
  have key := flag_loop (N := N) (fun (k : Bool → Option Rt_fixed_Adjoint) (s : Bool × Int) kn => fixed_Adjoint_22 N f (m : Int) up J M (b : Int) (t : Int) (q : Int) up' J' M' (b' : Int) (t' : Int) s.1 s.2 (fun v27 v28 => kn (v27, v28)) k) (fun k a => k a) m _ (fun a v ha => by
    obtain ⟨ks, b1, b2⟩ := h14 a ha v
    exact ⟨ks, b1, fun k kn => by simp only [fixed_Adjoint_22, fixed_Adjoint_21, fixed_Adjoint_20, fixed_Adjoint_19, fixed_Adjoint_18, fixed_Adjoint_17, fixed_Adjoint_16, fixed_Adjoint_15, fixed_Adjoint_12, fixed_Adjoint_11, fixed_Adjoint_10, fixed_Adjoint_9, lt_d ha, cond_true, b2, w1 hm ha]⟩)
    (fun v k kn => by simp only [fixed_Adjoint_22, fixed_Adjoint_21, fixed_Adjoint_10, fixed_Adjoint_9, lt_self, cond_false]) (by omega) ((nth 0 f ((b : Int)).toNat) == (b' : Int))
  obtain ⟨ks, b1, b2⟩ := key
  refine ⟨ks, b1.trans ?_, b2⟩
  rw [Int.toNat_natCast, hv b hbl, beq_iff_eq, Int.ofNat_inj]
  constructor
  · rintro ⟨e1, e2⟩
    refine ⟨hlen, hall, e1, fun a c ha hc => ?_⟩
    rcases Nat.lt_trichotomy c a with h | h | h
    · exact e2 a ha c h
    · subst h
      rw [l.jidem ha, hL'.lat.jidem (hlt c ha)]
    · rw [l.jcomm ha hc, e2 c hc a h, hL'.lat.jcomm (hlt c hc) (hlt a ha)]
  · exact fun e => ⟨e.bot, fun a ha c hca => e.join a c ha (by omega)⟩
theorem adj47 (hw' : WL up') (hlu' : up'.length = q) : ∃ g : List Int, g.length = q ∧ (∀ y, y < q → nth 0 g y = ((backG m J up' f b y : Nat) : Int)) ∧ ∀ k, fixed_Adjoint_47 N f (m : Int) up J M (b : Int) (t : Int) (q : Int) up' J' M' (b' : Int) (t' : Int) k = k g := by
  have _ := hL'
  have hv : ∀ i, i < m → nth 0 f i = ((fm f i : Nat) : Int) := fun i hi => (hall.at (by omega)).1
  have hlt : ∀ i, i < m → fm f i < q := fun i hi => (hall.at (by omega)).2
  have h35 : ∀ y, y < q → ∀ k, fixed_Adjoint_35 N f (m : Int) (q : Int) up' J' M' (b' : Int) (t' : Int) (y : Int) k = k ((underL m up' f y m).map fun (i : Nat) => (i : Int)) := fun y hy k => by
    unfold fixed_Adjoint_35
    refine loopD_path (N := N) m (fun i => ((i : Int), (underL m up' f y i).map fun (i : Nat) => (i : Int))) (fun i hi kn => ?_) (fun kn => ?_) (by omega)
    · have hl1 : (underL m up' f y i).length ≤ i := by
        unfold underL
        exact Nat.le_trans (List.length_filter_le _ _) (by simp)
      have hs : underL m up' f y (i + 1) = if bt (nth 0 up' (fm f i)) y then underL m up' f y i ++ [i] else underL m up' f y i := by
        unfold underL
        rw [List.range_succ, List.filter_append, List.filter_cons]
        split <;> simp
      simp only [fixed_Adjoint_34, lt_d hi, cond_true, ge0_d, lt_d (show i < f.length by omega), Bool.and_self, Int.toNat_natCast, hv i hi, tunder_eq hw' hlu' (fm f i) y (hlt i hi), Option.bind_some, w1 hm hi, hs]
      cases bt (nth 0 up' (fm f i)) y with
      | false => rfl
      | true =>
        simp only [cond_true, if_true]
        rw [d_true (by simp; omega)]
        simp only [show Nat.ble 1 8 = true from rfl, Bool.and_self, cond_true, List.map_append, List.map_cons, List.map_nil]
        rfl
    · simp only [fixed_Adjoint_34, lt_self, cond_false]
  have hul : ∀ y, (underL m up' f y m).length ≤ 16 := fun y => by
    unfold underL
    exact Nat.le_trans (List.length_filter_le _ _) (by simp; omega)
  unfold fixed_Adjoint_47
  have key := loopD_invk (N := N) (fun (k : List Int → Option Rt_fixed_Adjoint) (s : Int × List Int) kn => fixed_Adjoint_46 N f (m : Int) up J M (b : Int) (t : Int) (q : Int) up' J' M' (b' : Int) (t' : Int) s.1 s.2 (fun v52 v53 => kn (v52, v53)) k) (fun k s => k s.2) (s := (0, List.replicate ((q : Int)).toNat 0)) q
    (fun i s => s.1 = (i : Int) ∧ s.2.length = q ∧ ∀ y, y < i → nth 0 s.2 y = ((backG m J up' f b y : Nat) : Int)) ?_ ?_ (by omega) ⟨rfl, by simp, fun y h => absurd h (Nat.not_lt_zero _)⟩
  · obtain ⟨⟨s, g⟩, ⟨-, h1, h2⟩, h⟩ := key
    exact ⟨g, h1, h2, h⟩
  · rintro y ⟨s, g⟩ hy ⟨hs, hgl, hg⟩
    simp only at hs hgl hg
    subst hs
    refine ⟨((y : Int) + 1, g.set y ((backG m J up' f b y : Nat) : Int)), ⟨rfl, by simp [hgl], fun y' hy' => ?_⟩, fun k kn => ?_⟩
    · rw [nth_set (by omega)]
      by_cases e : y = y'
      · rw [if_pos e, e]
      · rw [if_neg e]; exact hg y' (by omega)
    · simp only [fixed_Adjoint_46, fixed_Adjoint_45, fixed_Adjoint_44, fixed_Adjoint_43, fixed_Adjoint_42, fixed_Adjoint_41, fixed_Adjoint_40, fixed_Adjoint_39, fixed_Adjoint_38, fixed_Adjoint_37, fixed_Adjoint_36, fixed_Adjoint_33, fixed_Adjoint_32, fixed_Adjoint_31, fixed_Adjoint_30, fixed_Adjoint_29, List.length_replicate, Int.toNat_natCast, lt_d hy, cond_true, h35 y hy, Joins_eq hN hm hL _ under_lt (hul y), Option.bind_some, ge0_d, lt_d (show y < g.length by omega), Bool.and_self, w1 hq hy]
      rfl
  · rintro ⟨s, g⟩ ⟨hs, hgl, hg⟩ k kn
    simp only at hs
    subst hs
    simp only [fixed_Adjoint_46, fixed_Adjoint_45, fixed_Adjoint_30, fixed_Adjoint_29, List.length_replicate, Int.toNat_natCast, lt_self, cond_false]
end
theorem Adj_spec {N : Nat} {n p : Int} {up up' f : List Int} (hN : 1000 ≤ N) (hfN : f.length < N) (hl : f.length ≤ 9223372036854775807) (hw : WL up) (hw' : WL up') :
    (∃ e, e ≠ 0 ∧ D_fixed_Adjoint N ((n, up), (p, up'), f, ()) = some ([], e, ())) ∨
    (∃ (m q : Nat) (J M J' M' : List Int) (b t b' t' : Nat) (g : List Int), n = (m : Int) ∧ p = (q : Int) ∧ Ord (m : Int) up ∧ Ord (q : Int) up' ∧ IsLat m up J M (b : Int) (t : Int) ∧ IsLat q up' J' M' (b' : Int) (t' : Int) ∧
      D_lattice_Of N ((n, up), ()) = some ((((m : Int), up), (J, (M, ((b : Int), (t : Int))))), 0, ()) ∧ D_lattice_Of N ((p, up'), ()) = some ((((q : Int), up'), (J', (M', ((b' : Int), (t' : Int))))), 0, ()) ∧
      Keeps m q f J J' b b' ∧ g.length = q ∧ (∀ y, y < q → nth 0 g y = ((backG m J up' f b y : Nat) : Int)) ∧ D_fixed_Adjoint N ((n, up), (p, up'), f, ()) = some (g, 0, ())) := by
  simp only [D_fixed_Adjoint, fixed_Adjoint_61, fixed_Adjoint_60, fixed_Adjoint_59, fixed_Adjoint_58, fixed_Adjoint_57, fixed_Adjoint_56, fixed_Adjoint_5, fixed_Adjoint_4, fixed_Adjoint_3, fixed_Adjoint_2, fixed_Adjoint_1]
  rcases LatOf_spec hN hw n with ⟨e, he, h1, -⟩ | ⟨m, J, M, B, T, rfl, ho, hL, h1⟩
  · exact .inl ⟨e, he, by simp only [h1, Option.bind_some, show (e != 0) = true from bne_iff_ne.2 he, cond_true]⟩
  rcases LatOf_spec hN hw' p with ⟨e, he, h2, -⟩ | ⟨q, J', M', B', T', rfl, ho', hL', h2⟩
  · exact .inl ⟨e, he, by simp only [h1, h2, Option.bind_some, bne_self_eq_false, cond_false, show (e != 0) = true from bne_iff_ne.2 he, cond_true]⟩
  obtain ⟨b, rfl⟩ : ∃ b : Nat, B = (b : Int) := ⟨B.toNat, by have := hL.b0; omega⟩
  obtain ⟨t, rfl⟩ : ∃ t : Nat, T = (t : Int) := ⟨T.toNat, by have := hL.t0; omega⟩
  obtain ⟨b', rfl⟩ : ∃ b : Nat, B' = (b : Int) := ⟨B'.toNat, by have := hL'.b0; omega⟩
  obtain ⟨t', rfl⟩ : ∃ t : Nat, T' = (t : Int) := ⟨T'.toNat, by have := hL'.t0; omega⟩
  have hm : m ≤ 16 := by have := ho.h1; omega
  have hq : q ≤ 16 := by have := ho'.h1; omega
  have hbl := hL.lat.blt
  simp only [Int.toNat_natCast] at hbl
  obtain ⟨v, v1, v2⟩ := into_eq (N := N) (n := (m : Int)) (most := (q : Int)) hfN hl
  simp only [h1, h2, Option.bind_some, bne_self_eq_false, cond_false, fixed_Adjoint_6, v1]
  rcases bcase v2 with ⟨⟨hlen, hall⟩, rfl⟩ | ⟨-, rfl⟩
  case inr => exact .inl ⟨2, by decide, rfl⟩
  have hlen : f.length = m := by omega
  obtain ⟨ks, k1, k2⟩ := adj23 hN hm hq hL hL' hlen hall
  simp only [Bool.not_true, cond_false, fixed_Adjoint_55, fixed_Adjoint_54, fixed_Adjoint_25, fixed_Adjoint_24, fixed_Adjoint_8, fixed_Adjoint_7, ge0_d, lt_d (show b < f.length by omega), Bool.and_self, cond_true, k2, fixed_Adjoint_53, fixed_Adjoint_26]
  rcases bcase k1 with ⟨hk, rfl⟩ | ⟨-, rfl⟩
  case inr => exact .inl ⟨5, by decide, rfl⟩
  obtain ⟨g, g1, g2, g3⟩ := adj47 hN hm hq hL hL' hlen hall hw' (by have := ho'.len; omega)
  refine .inr ⟨m, q, J, M, J', M', b, t, b', t', g, rfl, rfl, ho, ho', hL, hL', rfl, rfl, hk, g1, g2, ?_⟩
  simp only [Bool.not_true, cond_false, fixed_Adjoint_52, fixed_Adjoint_51, fixed_Adjoint_50, fixed_Adjoint_49, fixed_Adjoint_48, fixed_Adjoint_28, fixed_Adjoint_27, d_true (show (0 : Int) ≤ (q : Int) by omega), d_true (show (q : Int) ≤ (q : Int) by omega), d_true (show (q : Int) * 8 ≤ 281474976710656 by omega), Bool.and_self, cond_true, g3]
end Go.Proofs.YtdbjfdjpmoackaaDoor
