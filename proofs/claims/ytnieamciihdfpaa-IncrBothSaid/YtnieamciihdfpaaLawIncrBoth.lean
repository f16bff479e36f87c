import Derived.Test.YtnieamciihdfpaaIncS
import Derived.Test.YtnieamciihdfpaaHisV
import Derived.Test.YtnieamciihdfpaaJoinT
import Derived.Test.YtnieamciihdfpaaFrame0
namespace Go.Proofs.Ytnieamciihdfpaa
section
open Go.Abs Go.Bag Go.His
theorem Concat_eq {N : Nat} (hN : 1000 ≤ N) {f g : List (List Int)} (hl : f.length + g.length ≤ 128) : D_slices_Concat_LLint_Lint N ([f, g], ()) = some (f ++ g) := by
  obtain ⟨M, rfl⟩ : ∃ M, N = M + 3 := ⟨N - 3, by omega⟩
  have w0 : IntKind.i64.wrap ((0 : Int) + 1) = 1 := by decide
  have w1' : IntKind.i64.wrap ((1 : Int) + 1) = 2 := by decide
  have a1 : IntKind.i64.wrap ((0 : Int) + (f.length : Int)) = (f.length : Int) := by rw [w64 (by omega) (by omega)]; omega
  have a2 : IntKind.i64.wrap ((f.length : Int) + (g.length : Int)) = (f.length : Int) + (g.length : Int) := w64 (by omega) (by omega)
  have t0 : (0 : Int).toNat = 0 := rfl
  have t1 : (1 : Int).toNat = 1 := rfl
  have n0 : nth [] [f, g] 0 = f := rfl
  have n1 : nth [] [f, g] 1 = g := rfl
  have c0 : decide ((0 : Int) < (([f, g] : List (List (List Int))).length : Int)) = true := rfl
  have c1 : decide ((1 : Int) < (([f, g] : List (List (List Int))).length : Int)) = true := rfl
  have c2 : decide ((2 : Int) < (([f, g] : List (List (List Int))).length : Int)) = false := rfl
  have g0 : decide ((0 : Int) ≤ 0) = true := rfl
  have g1 : decide ((0 : Int) ≤ 1) = true := rfl
  simp only [D_slices_Concat_LLint_Lint, slices_Concat_LLint_Lint_5, joinD, loopE, loopD, slices_Concat_LLint_Lint_4, backE_eq, w0, w1', a1, a2, t0, t1, n0, n1, c0, c1, c2, g0, g1, Bool.and_self, cond_true, cond_false, d_false (show ¬ (f.length : Int) < 0 by omega), d_false (show ¬ (f.length : Int) + (g.length : Int) < 0 by omega), slices_Concat_LLint_Lint_3]
  rw [d_true (show (0 : Int) ≤ (f.length : Int) + (g.length : Int) by omega), d_true (show ((f.length : Int) + (g.length : Int)) * 24 ≤ 140737488355328 by omega), d_true (show (f.length : Int) + (g.length : Int) ≤ 4611686018427387904 by omega)]
  simp only [Bool.and_self, cond_true, Option.bind_some, loopD, slices_Concat_LLint_Lint_2, backE_eq, w0, w1', t0, t1, n0, n1, c0, c1, c2, g0, g1, List.nil_append, List.length_nil, cond_false]
  rw [d_true (show (0 + f.length) * 24 ≤ 140737488355328 by omega), d_true (show (f.length + g.length) * 24 ≤ 140737488355328 by omega)]
  rfl
theorem twoF_nil (k A B : Int) : twoF k A B [] [] = [] := by
  unfold twoF; split <;> rfl
theorem make_two {N : Nat} (hN : 20000 ≤ N) {h g : List Df} {c : List Int} (H : HOk h c) (G : HOk g c) (k A B : Int) (hk : k = 9 ∨ k = 10) :
    ∃ (a b : List Row) (out : Bg), IsBag (amt (stL h c)) a ∧ a.length ≤ 128 ∧ IsBag (amt (stL g c)) b ∧ b.length ≤ 128 ∧ BOk (amt (twoF k A B a b)) out ∧ out.2.length ≤ 16384 ∧
      D_incr_Two_c1_h N (c, k, A, B, h, g) = some (decide ((out.2.length : Int) ≤ 128), k, A, B, h, g, out) := by
  obtain ⟨d, d1, d2, d3⟩ := Stands_eq (N := N) (by omega) H
  obtain ⟨f, f1, f2, f3⟩ := Stands_eq (N := N) (by omega) G
  have key : ∃ (ra rb : List Row) (out : Bg), D_ops_Pair_h N ((k, A, B), d, f) = some (d, f, k, A, B, out) ∧ IsBag (amt (stL h c)) ra ∧ IsBag (amt (stL g c)) rb ∧ ra.length ≤ 128 ∧ rb.length ≤ 128 ∧ BOk (amt (twoF k A B ra rb)) out ∧ out.2.length ≤ 16384 := by
    rcases hk with rfl | rfl
    · obtain ⟨ra, rb, out, m1, m2, m3, m4, m5, m6, m7⟩ := Pair_concat (N := N) d2 f2 A B (by omega) (by omega) (by omega) (by omega)
      exact ⟨ra, rb, out, m1, m2, m3, by omega, by omega, m4, by omega⟩
    · obtain ⟨ra, rb, out, m1, m2, m3, m4, m5, m6, m7⟩ := Pair_join (N := N) d2 f2 A B (by omega) (by omega) (by omega) (by omega)
      refine ⟨ra, rb, out, m1, m2, m3, by omega, by omega, m4, ?_⟩
      have : ra.length * rb.length ≤ 128 * 128 := Nat.mul_le_mul (by omega) (by omega)
      omega
  obtain ⟨ra, rb, out, m1, m2, m3, m4, m5, m6, m7⟩ := key
  refine ⟨ra, rb, out, m2, m4, m3, m5, m6, m7, ?_⟩
  simp only [D_incr_Two_c1_h, incr_Two_c1_h_1, d1, f1, m1, Option.bind_some]
def Two1 (k A B : Int) (h g : List Df) (c : List Int) (r : List Row) : Prop :=
  r.length ≤ 128 ∧ ∃ a b, IsBag (amt (stL h c)) a ∧ a.length ≤ 128 ∧ IsBag (amt (stL g c)) b ∧ b.length ≤ 128 ∧ IsBag (amt (twoF k A B a b)) r
def TwoT (n : Nat) (k A B : Int) (h g l : List Df) : Prop :=
  l.length ≤ 64 ∧ cntR l ≤ 128 ∧ (∀ d ∈ l, tok d.1 = true ∧ d.1.length = n) ∧ (h = [] → g = [] → l = []) ∧ (∃ G, IsHis G l) ∧
      ∀ t, tok t = true → t.length = n → ∃ r, Two1 k A B h g t r ∧ ∀ z, Cg (amt (stL l t) z) (amt r z)
theorem makes2_end {N : Nat} (hN : 600000 ≤ N) {h g : List Df} (H : HOkk h) (K : HOkk g) {n : Nat} (hn : ∀ d ∈ h, d.1.length = n) (gn : ∀ d ∈ g, d.1.length = n) (k A B : Int)
    {C : List (List Int)} (hC : Clo n (h.map Prod.fst ++ g.map Prod.fst) C) (hCn : C.Nodup) (hCl : C.length ≤ 64) {S : List Df} (g1 : S.map Prod.fst = C) (g2 : ∀ e ∈ S, Two1 k A B h g e.1 e.2) (ts : List (List Int)) :
    ∃ l e, incr_makes_h_1 N ts k A B h g S = some (l, e, ts, k, A, B, h, g) ∧ ((e = 0 ∧ TwoT n k A B h g l) ∨ (e ≠ 0 ∧ l = [])) := by
  have hHO : ∀ {c : List Int}, tok c = true → c.length = n → HOk h c := fun {c} hc hcn => hokk_at H hc fun d hd => by rw [hn d hd, hcn]
  have hKO : ∀ {c : List Int}, tok c = true → c.length = n → HOk g c := fun {c} hc hcn => hokk_at K hc fun d hd => by rw [gn d hd, hcn]
  have hSl : S.length ≤ 64 := by
    have := congrArg List.length g1
    simp only [List.length_map] at this
    omega
  have hSC : ∀ {e : Df}, e ∈ S → e.1 ∈ C := fun {e} he => by rw [← g1]; exact List.mem_map.2 ⟨e, he, rfl⟩
  have hK : (S.flatMap Prod.snd).length ≤ 8192 := by
    have key : ∀ T : List Df, (∀ e ∈ T, e.2.length ≤ 128) → (T.flatMap Prod.snd).length ≤ 128 * T.length := fun T => by
      induction T with
      | nil => intro _; simp
      | cons e T ih =>
        intro hT
        have h1 := ih fun x hx => hT x (by simp [hx])
        have h2 := hT e (by simp)
        rw [List.flatMap_cons, List.length_append, List.length_cons, Nat.mul_add]
        omega
    have := key S fun e he => (g2 e he).1
    omega
  obtain ⟨d, hF, d1, d2, d3, d4, d5, d6⟩ := MovesR_eq (N := N) (by omega) (s := S) hSl (fun e he => (hC.tk _ (hSC he)).1) (fun e he f hf => by rw [(hC.tk _ (hSC he)).2, (hC.tk _ (hSC hf)).2]) hK (by rw [g1]; exact hCn)
  obtain ⟨l, l1, l2, l3, l4⟩ := hTells_eq (N := N) (by omega) d2 (by omega) (by omega) (by omega) (by omega)
  refine ⟨if 64 < l.length ∨ 128 < cntR l then [] else l, if 64 < l.length ∨ 128 < cntR l then 1 else 0, ?_, ?_⟩
  · simp only [incr_makes_h_1, d1, l4, Option.bind_some]
    split <;> rfl
  by_cases q : 64 < l.length ∨ 128 < cntR l
  · rw [if_pos q, if_pos q]; exact .inr ⟨by decide, rfl⟩
  rw [if_neg q, if_neg q]
  have hFC : ∀ {e : Df}, e ∈ hF → e.1 ∈ C := fun {e} he => by
    obtain ⟨f, hf, e1⟩ := (d3 e.1).1 ⟨e, he, rfl⟩
    rw [← e1]; exact hSC hf
  have hlC : ∀ {e : Df}, e ∈ l → e.1 ∈ C := fun {e} he => by
    obtain ⟨f, hf, e1⟩ := l1.times e he
    rw [← e1]; exact hFC hf
  refine .inl ⟨rfl, by omega, by omega, fun e he => hC.tk _ (hlC he), fun hh hg => ?_, ⟨_, l1⟩, fun t ht htn => ?_⟩
  · cases l with
    | nil => rfl
    | cons e l =>
      obtain ⟨u, hu, -⟩ := hC.some e.1 (hlC (by simp))
      rw [hh, hg] at hu
      cases hu
  · have hst : ∀ z, Cg (amt (stL l t) z) (amt (stL hF t) z) := fun z => His.HEq.sel (fun t z => l1.rows t z) (fun u => undr u t) z
    have hsel : ∀ (g : List Df) (c : List Int), (∀ d ∈ g, undr d.1 t = undr d.1 c) → stL g t = stL g c := fun g c hg => by
      unfold stL
      induction g with
      | nil => rfl
      | cons d g ih => rw [List.flatMap_cons, List.flatMap_cons, ih fun x hx => hg x (by simp [hx]), hg d (by simp)]
    by_cases q : ∃ u ∈ h.map Prod.fst ++ g.map Prod.fst, undr u t = true
    · obtain ⟨c, hc, hct, hall⟩ := hC.best htn q
      obtain ⟨k1, k2⟩ := hC.tk c hc
      have e1 : stL h t = stL h c := hsel h c fun d hd => by
        rw [Bool.eq_iff_iff]
        exact ⟨fun hu => hall _ (List.mem_append_left _ (List.mem_map.2 ⟨d, hd, rfl⟩)) hu, fun hu => undr_trans hu hct⟩
      have e1' : stL g t = stL g c := hsel g c fun d hd => by
        rw [Bool.eq_iff_iff]
        exact ⟨fun hu => hall _ (List.mem_append_right _ (List.mem_map.2 ⟨d, hd, rfl⟩)) hu, fun hu => undr_trans hu hct⟩
      have e2 : stL hF t = stL hF c := hsel hF c fun d hd => by
        rw [Bool.eq_iff_iff]
        exact ⟨fun hu => hC.gen _ (hFC hd) c k2 fun x hx hxd => hall x hx (undr_trans hxd hu), fun hu => undr_trans hu hct⟩
      have hcS : c ∈ S.map Prod.fst := by rw [g1]; exact hc
      obtain ⟨e, he, rfl⟩ := List.mem_map.1 hcS
      refine ⟨e.2, ?_, fun z => (hst z).trans ?_⟩
      · have := g2 e he
        unfold Two1 at this ⊢
        rw [e1, e1']; exact this
      · rw [e2]
        exact d4 e he z
    · have hnone : ∀ (g : List Df), (∀ d ∈ g, ¬ undr d.1 t = true) → stL g t = [] := fun g hg => by
        unfold stL
        induction g with
        | nil => rfl
        | cons d g ih => rw [List.flatMap_cons, ih fun x hx => hg x (by simp [hx]), if_neg (hg d (by simp))]; rfl
      have e1 : stL h t = [] := hnone h fun d hd hu => q ⟨d.1, List.mem_append_left _ (List.mem_map.2 ⟨d, hd, rfl⟩), hu⟩
      have e1' : stL g t = [] := hnone g fun d hd hu => q ⟨d.1, List.mem_append_right _ (List.mem_map.2 ⟨d, hd, rfl⟩), hu⟩
      have e2 : stL hF t = [] := hnone hF fun d hd hu => by
        obtain ⟨x, hx, hxd⟩ := hC.some d.1 (hFC hd)
        exact q ⟨x, hx, undr_trans hxd hu⟩
      have hnil : IsBag (amt ([] : List Row)) [] := ⟨List.Pairwise.nil, fun r hr => (by cases hr), fun e => w_zero.symm⟩
      refine ⟨[], ⟨by simp, [], [], by rw [e1]; exact hnil, by simp, by rw [e1']; exact hnil, by simp, by rw [twoF_nil]; exact hnil⟩, fun z => (hst z).trans ?_⟩
      rw [e2]
      exact Cg.rfl
theorem makes2_eq {N : Nat} (hN : 600000 ≤ N) {h g : List Df} (H : HOkk h) (K : HOkk g) {n : Nat} (hn : ∀ d ∈ h, d.1.length = n) (gn : ∀ d ∈ g, d.1.length = n) (hn4 : n ≤ 4) (k A B : Int) (hk : k = 9 ∨ k = 10) :
    ∃ l e, D_incr_makes_h N (h.map Prod.fst ++ g.map Prod.fst, k, A, B, h, g) = some (l, e, h.map Prod.fst ++ g.map Prod.fst, k, A, B, h, g) ∧ ((e = 0 ∧ TwoT n k A B h g l) ∨ (e ≠ 0 ∧ l = [])) := by
  have h64 := H.len
  have k64 := K.len
  have hts : ∀ t ∈ h.map Prod.fst ++ g.map Prod.fst, tok t = true ∧ t.length = n := fun t ht => by
    rcases List.mem_append.1 ht with ht | ht
    · obtain ⟨d, hd, rfl⟩ := List.mem_map.1 ht
      exact ⟨H.tok hd, hn d hd⟩
    · obtain ⟨d, hd, rfl⟩ := List.mem_map.1 ht
      exact ⟨K.tok hd, gn d hd⟩
  obtain ⟨C, ok, c1, c2, c3⟩ := closed_eq (N := N) (by omega) (k := n) (ts := h.map Prod.fst ++ g.map Prod.fst) (by rw [List.length_append, List.length_map, List.length_map]; omega) hts hn4
  simp only [D_incr_makes_h, incr_makes_h_3, c1, Option.bind_some]
  cases ok with
  | false => exact ⟨[], 1, by simp only [Bool.not_false, cond_true], .inr ⟨by decide, rfl⟩⟩
  | true =>
    obtain ⟨hC, hCn, hCl⟩ := c2 rfl
    simp only [Bool.not_true, cond_false, joinD, loopE]
    have hHO : ∀ {c : List Int}, tok c = true → c.length = n → HOk h c := fun {c} hc hcn => hokk_at H hc fun d hd => by rw [hn d hd, hcn]
    have hKO : ∀ {c : List Int}, tok c = true → c.length = n → HOk g c := fun {c} hc hcn => hokk_at K hc fun d hd => by rw [gn d hd, hcn]
    obtain ⟨ts, hts'⟩ : ∃ ts, ts = h.map Prod.fst ++ g.map Prod.fst := ⟨_, rfl⟩
    rw [← hts']
    refine loopD_post (fun s : Int × Int × Int × Int × List Df × List Df × List Df => ∃ (i : Nat) (S : List Df), s = ((i : Int), k, A, B, h, g, S) ∧ i ≤ C.length ∧ S.map Prod.fst = C.take i ∧ ∀ e ∈ S, Two1 k A B h g e.1 e.2) (fun s => C.length - s.1.toNat)
      (fun r => ∃ l e, r = some (l, e, ts, k, A, B, h, g) ∧ ((e = 0 ∧ TwoT n k A B h g l) ∨ (e ≠ 0 ∧ l = []))) ?_ N _ ⟨0, [], rfl, Nat.zero_le _, rfl, fun e he => by cases he⟩ (by simp; omega)
    rintro s ⟨i, S, rfl, hi, g1, g2⟩ kn hkn
    by_cases q : i < C.length
    case neg =>
      have hie : i = C.length := by omega
      subst hie
      rw [List.take_length] at g1
      simp only [incr_makes_h_2, lt_self, cond_false]
      exact makes2_end hN H K hn gn k A B hC hCn hCl g1 g2 ts
    have hc := nth_mem (z := ([] : List Int)) q
    obtain ⟨k1, k2⟩ := hC.tk _ hc
    obtain ⟨a, b, out, a1, a2, a3, a4, a5, a6, a7⟩ := make_two (N := N) (by omega) (hHO k1 k2) (hKO k1 k2) k A B hk
    simp only [incr_makes_h_2, lt_d q, ge0_d, Bool.and_self, cond_true, Int.toNat_natCast, a7, Option.bind_some]
    by_cases q2 : (out.2.length : Int) ≤ 128
    case neg =>
      rw [d_false q2, Bool.not_false, cond_true]
      exact ⟨[], 1, rfl, .inr ⟨by decide, rfl⟩⟩
    obtain ⟨rows, r1, r2, r3⟩ := RowsR_eq (N := N) a5 (by omega) (by omega)
    have hSl : S.length = i := by
      have := congrArg List.length g1
      simp only [List.length_map, List.length_take] at this
      omega
    have hd : decide ((S.length + ([(nth [] C i, rows)] : List Df).length) * 48 ≤ 140737488355328) = true := d_true (by simp only [List.length_singleton]; omega)
    rw [d_true q2, Bool.not_true, cond_false, r1, Option.bind_some, hd, show Nat.ble 1 48 = true from rfl, Bool.and_self, cond_true, backE_eq, ix1 q (show C.length ≤ 4611686018427387904 by omega)]
    refine hkn _ ⟨i + 1, S ++ [(nth [] C i, rows)], by simp, by omega, ?_, fun e he => ?_⟩ (by simp; omega)
    · rw [List.take_succ_eq_append_getElem q, ← nth_lt (z := ([] : List Int)) q, List.map_append, g1]; rfl
    · rcases List.mem_append.1 he with he | he
      · exact g2 e he
      · rw [List.mem_singleton] at he
        subst he
        exact ⟨by show rows.length ≤ 128; omega, a, b, a1, a2, a3, a4, r2⟩
structure Inc2Ok (k A B : Int) (h g l : List Df) : Prop where
  kind : k = 9 ∨ k = 10
  hisH : HOkk h
  hisK : HOkk g
  out : HOkk l
  one : ∀ d ∈ l, ∀ x ∈ h ++ g, d.1.length = x.1.length
  nil : h = [] → g = [] → l = []
  st : ∀ t, tok t = true → (∀ d ∈ h, d.1.length = t.length) → (∀ d ∈ g, d.1.length = t.length) → ∃ r, Two1 k A B h g t r ∧ ∀ z, Cg (amt (stL l t) z) (amt r z)
theorem two_tail {N : Nat} (hN : 600000 ≤ N) {h g : List Df} (H : HOkk h) (K : HOkk g) {n : Nat} (hn : ∀ d ∈ h, d.1.length = n) (gn : ∀ d ∈ g, d.1.length = n) (hn4 : n ≤ 4) (k A B : Int) (hk : k = 9 ∨ k = 10) :
    ∃ l e, (((fun x => (D_diffs_Times N x).map fun y => (y, ())) (h, ())).bind fun y26 => (((fun x => (D_diffs_Times N x).map fun y => (y, ())) (g, ())).bind fun y27 => ((D_slices_Concat_LLint_Lint N ([y26.1, y27.1], ())).bind fun y28 => ((D_incr_makes_h N (y28, k, A, B, h, g)).bind fun y30 => (some (y30.1, y30.2.1, ()) : Option Rt_incr_Two))))) = some (l, e, ()) ∧ ((e = 0 ∧ TwoT n k A B h g l) ∨ (e ≠ 0 ∧ l = [])) := by
  have h64 := H.len
  have k64 := K.len
  obtain ⟨l, e, m1, m2⟩ := makes2_eq (N := N) hN H K hn gn hn4 k A B hk
  refine ⟨l, e, ?_, m2⟩
  simp only [dTimes_eq (N := N) (h := h) (by omega) h64, dTimes_eq (N := N) (h := g) (by omega) k64, Option.map_some, Option.bind_some]
  rw [Concat_eq (N := N) (by omega) (by rw [List.length_map, List.length_map]; omega), Option.bind_some, m1, Option.bind_some]
theorem incTwo_eq {N : Nat} (hN : 600000 ≤ N) (k A B : Int) {h g : List Df} (hl : h.length < N) (hl2 : h.length ≤ 4611686018427387904) (gl : g.length < N) (gl2 : g.length ≤ 4611686018427387904) :
    ∃ l e, D_incr_Two N ((k, A, B), h, g, ()) = some (l, e, ()) ∧ ((e = 0 ∧ Inc2Ok k A B h g l) ∨ (e ≠ 0 ∧ l = [])) := by
  simp only [D_incr_Two, incr_Two_1, Ports_eq N k A B, Option.bind_some]
  by_cases hk : k = 9 ∨ k = 10
  case neg =>
    refine ⟨[], 17, ?_, .inr ⟨by decide, rfl⟩⟩
    have : ((if 1 ≤ k ∧ k ≤ 8 then 1 else if k = 9 ∨ k = 10 then 2 else 0 : Int) != 2) = true := by
      rw [if_neg hk]; split <;> rfl
    rw [this, cond_true]
  rw [if_neg (by omega), if_pos hk, bne_self_eq_false, cond_false]
  obtain ⟨h', e, h1, h2⟩ := dTidy_eq (N := N) (h := h) (by omega) hl hl2
  obtain ⟨g', x, g1, g2⟩ := dTidy_eq (N := N) (h := g) (by omega) gl gl2
  simp only [h1, g1, Option.bind_some]
  have core : HOkk h → HOkk g → IsHis (fun t => amt (rowsAt h t)) h' → IsHis (fun t => amt (rowsAt g t)) g' → HOkk h' → HOkk g' → (∀ x ∈ h, ∀ y ∈ g, x.1.length = y.1.length) →
      ∃ l e, (((fun x => (D_diffs_Times N x).map fun y => (y, ())) (h', ())).bind fun y26 => (((fun x => (D_diffs_Times N x).map fun y => (y, ())) (g', ())).bind fun y27 => ((D_slices_Concat_LLint_Lint N ([y26.1, y27.1], ())).bind fun y28 => ((D_incr_makes_h N (y28, k, A, B, h', g')).bind fun y30 => (some (y30.1, y30.2.1, ()) : Option Rt_incr_Two))))) = some (l, e, ()) ∧ ((e = 0 ∧ Inc2Ok k A B h g l) ∨ (e ≠ 0 ∧ l = [])) := fun H K i1 j1 O1 P1 hsame => by
    have hall : ∀ {n : Nat}, (∃ x ∈ h ++ g, x.1.length = n) → ∀ y ∈ h ++ g, y.1.length = n := fun {n} ⟨x, hx, e⟩ y hy => by
      rw [← e]
      rcases List.mem_append.1 hx with hx | hx <;> rcases List.mem_append.1 hy with hy | hy
      · exact H.one hy hx
      · exact (hsame x hx y hy).symm
      · exact hsame y hy x hx
      · exact K.one hy hx
    have hin : ∀ d ∈ h', ∃ x ∈ h ++ g, x.1 = d.1 := fun d hd => by
      obtain ⟨y, hy, ey⟩ := i1.times d hd; exact ⟨y, List.mem_append_left _ hy, ey⟩
    have gin : ∀ d ∈ g', ∃ x ∈ h ++ g, x.1 = d.1 := fun d hd => by
      obtain ⟨y, hy, ey⟩ := j1.times d hd; exact ⟨y, List.mem_append_right _ hy, ey⟩
    obtain ⟨n, hn4, hnn, hn0⟩ : ∃ n, n ≤ 4 ∧ (∀ x ∈ h ++ g, x.1.length = n) ∧ True := by
      by_cases q : h ++ g = []
      · exact ⟨1, by omega, fun x hx => (by rw [q] at hx; cases hx), trivial⟩
      · obtain ⟨x, hx⟩ := List.exists_mem_of_ne_nil _ q
        refine ⟨x.1.length, ?_, hall ⟨x, hx, rfl⟩, trivial⟩
        rcases List.mem_append.1 hx with hx | hx
        · exact tok4 (H.tok hx)
        · exact tok4 (K.tok hx)
    have hn : ∀ d ∈ h', d.1.length = n := fun d hd => by obtain ⟨y, hy, ey⟩ := hin d hd; rw [← ey]; exact hnn y hy
    have gn : ∀ d ∈ g', d.1.length = n := fun d hd => by obtain ⟨y, hy, ey⟩ := gin d hd; rw [← ey]; exact hnn y hy
    obtain ⟨l, e, m1, m2⟩ := two_tail (N := N) hN O1 P1 hn gn hn4 k A B hk
    refine ⟨l, e, m1, ?_⟩
    rcases m2 with ⟨rfl, m3, m4, m5, m6, m7, m8⟩ | m2
    case inr => exact .inr m2
    refine .inl ⟨rfl, hk, H, K, ⟨m3, m4, ⟨by simpa using m3, fun t ht => ?_, fun t ht => ?_⟩⟩, fun d hd x hx => ?_, fun hh hg => ?_, fun t ht hone gone => ?_⟩
    · obtain ⟨d, hd, rfl⟩ := List.mem_map.1 ht
      exact (m5 d hd).1
    · obtain ⟨d, hd, rfl⟩ := List.mem_map.1 ht
      have h0 : 0 < l.length := List.length_pos_of_mem hd
      have hm := nth_mem (z := ([] : List Int)) (xs := l.map Prod.fst) (i := 0) (by simpa using h0)
      obtain ⟨d0, hd0, e0⟩ := List.mem_map.1 hm
      rw [← e0, (m5 d hd).2, (m5 d0 hd0).2]
    · rw [(m5 d hd).2, hnn x hx]
    · refine m6 ?_ ?_
      · subst hh
        cases h' with
        | nil => rfl
        | cons d0 g => obtain ⟨y, hy, -⟩ := i1.times d0 (by simp); cases hy
      · subst hg
        cases g' with
        | nil => rfl
        | cons d0 g => obtain ⟨y, hy, -⟩ := j1.times d0 (by simp); cases hy
    · have hst : ∀ z, Cg (amt (stL h' t) z) (amt (stL h t) z) := fun z => His.HEq.sel (fun t z => i1.rows t z) (fun u => undr u t) z
      have gst : ∀ z, Cg (amt (stL g' t) z) (amt (stL g t) z) := fun z => His.HEq.sel (fun t z => j1.rows t z) (fun u => undr u t) z
      by_cases q : h ++ g = []
      · obtain ⟨q1, q2⟩ := List.append_eq_nil_iff.1 q
        have hh' : h' = [] := by
          cases h' with
          | nil => rfl
          | cons d0 g => obtain ⟨y, hy, -⟩ := i1.times d0 (by simp); rw [q1] at hy; cases hy
        have hg' : g' = [] := by
          cases g' with
          | nil => rfl
          | cons d0 g => obtain ⟨y, hy, -⟩ := j1.times d0 (by simp); rw [q2] at hy; cases hy
        have hln := m6 hh' hg'
        have hnil : IsBag (amt ([] : List Row)) [] := ⟨List.Pairwise.nil, fun r hr => (by cases hr), fun e => w_zero.symm⟩
        subst hln
        rw [q1, q2]
        exact ⟨[], ⟨by simp, [], [], hnil, by simp, hnil, by simp, by rw [twoF_nil]; exact hnil⟩, fun z => Cg.rfl⟩
      · obtain ⟨x, hx⟩ := List.exists_mem_of_ne_nil _ q
        have htn : t.length = n := by
          rw [← hnn x hx]
          rcases List.mem_append.1 hx with hx | hx
          · exact (hone x hx).symm
          · exact (gone x hx).symm
        obtain ⟨r, ⟨r0, a, b, r1, r2, r3, r4, r5⟩, r6⟩ := m8 t ht htn
        exact ⟨r, ⟨r0, a, b, r1.cg hst, r2, r3.cg gst, r4, r5⟩, r6⟩
  have bad : ∀ {r : Option Rt_incr_Two} {e : Int}, e ≠ 0 → r = some ([], e, ()) → ∃ l e, r = some (l, e, ()) ∧ ((e = 0 ∧ Inc2Ok k A B h g l) ∨ (e ≠ 0 ∧ l = [])) := fun he hr => ⟨[], _, hr, .inr ⟨he, rfl⟩⟩
  by_cases qh : (h.length : Int) > 0
  · rw [d_true qh, cond_true]
    by_cases qg : (g.length : Int) > 0
    · rw [d_true qg, cond_true, show decide ((0 : Int) ≤ 0) = true from rfl, Bool.and_self, cond_true, cond_true]
      rcases h2 with ⟨rfl, H, i1, O1⟩ | ⟨he, -, rfl⟩
      case inr => exact bad he (by rw [bne_iff_ne.2 he, cond_true])
      rw [bne_self_eq_false, cond_false]
      rcases g2 with ⟨rfl, K, j1, P1⟩ | ⟨he, -, rfl⟩
      case inr => exact bad he (by rw [bne_iff_ne.2 he, cond_true])
      rw [bne_self_eq_false, cond_false]
      by_cases q : ((nth ([], []) h (0 : Int).toNat).1.length : Int) = ((nth ([], []) g (0 : Int).toNat).1.length : Int)
      case neg => exact bad (e := 3) (by decide) (by rw [bne_iff_ne.2 q, cond_true])
      rw [q, bne_self_eq_false, cond_false]
      refine core H K i1 j1 O1 P1 fun x hx y hy => ?_
      have hx0 : nth ([], []) h 0 ∈ h := nth_mem (by omega)
      have hy0 : nth ([], []) g 0 ∈ g := nth_mem (by omega)
      rw [H.one hx hx0, K.one hy hy0]
      have : (0 : Int).toNat = 0 := rfl
      rw [this] at q
      omega
    · rw [d_false qg, cond_false]
      rcases h2 with ⟨rfl, H, i1, O1⟩ | ⟨he, -, rfl⟩
      case inr => exact bad he (by rw [bne_iff_ne.2 he, cond_true])
      rw [bne_self_eq_false, cond_false]
      rcases g2 with ⟨rfl, K, j1, P1⟩ | ⟨he, -, rfl⟩
      case inr => exact bad he (by rw [bne_iff_ne.2 he, cond_true])
      rw [bne_self_eq_false, cond_false]
      refine core H K i1 j1 O1 P1 fun x hx y hy => ?_
      have := List.length_pos_of_mem hy
      omega
  · rw [d_false qh, cond_false]
    rcases h2 with ⟨rfl, H, i1, O1⟩ | ⟨he, -, rfl⟩
    case inr => exact bad he (by rw [bne_iff_ne.2 he, cond_true])
    rw [bne_self_eq_false, cond_false]
    rcases g2 with ⟨rfl, K, j1, P1⟩ | ⟨he, -, rfl⟩
    case inr => exact bad he (by rw [bne_iff_ne.2 he, cond_true])
    rw [bne_self_eq_false, cond_false]
    refine core H K i1 j1 O1 P1 fun x hx y hy => ?_
    have := List.length_pos_of_mem hx
    omega
end
open Go Go.ChangeShapes Go.WideShapes Go.ChangeAt Go.WideMaps Go.WideElems Go.RowKit Go.Abs Go.Bag Go.His
abbrev Ks_keep_IncrBoth : List Kd := [.dat (.pair (.int .i64) (.pair (.int .i64) (.int .i64))), .dat (.sl (.pair (.sl (.int .i64)) (.sl (.pair (.int .i64) (.pair (.int .i64) (.int .i64)))))), .dat (.sl (.pair (.sl (.int .i64)) (.sl (.pair (.int .i64) (.pair (.int .i64) (.int .i64)))))), .dat (.sl (.int .i64))]
abbrev Rk_keep_IncrBoth : List Kd := [.dat (.bool)]
abbrev Rt_keep_IncrBoth : Type := Dens Rk_keep_IncrBoth
noncomputable def C_keep_IncrBoth (_N : Nat) : Ctx := { T := [(22, ⟨.slice 64, 1, 24, some (.sl (.pair (.sl (.int .i64)) (.sl (.pair (.int .i64) (.pair (.int .i64) (.int .i64)))))), [.nil], false, []⟩), (46, ⟨.struct [(0, 3), (1, 2), (2, 2)], 3, 24, some (.pair (.int .i64) (.pair (.int .i64) (.int .i64))), [.int .i64 (0 : Int), .int .i64 (0 : Int), .int .i64 (0 : Int)], true, []⟩)], G := findE [mkQ 23 Ks_incr_Two Rk_incr_Two (D_incr_Two _N), mkQ 17 Ks_diffs_At Rk_diffs_At (D_diffs_At _N), mkQ 24 Ks_ops_Two Rk_ops_Two (D_ops_Two _N), mkP 18 Ks_ref_BagsSame Rk_ref_BagsSame (D_ref_BagsSame _N), mkP 21 Ks_keep_total Rk_keep_total (D_keep_total _N), mkP 22 Ks_keep_totalAt Rk_keep_totalAt (D_keep_totalAt _N)], I := findI [], N := _N, n := 93, fx := [], fl := 0, gs := [] }
noncomputable def keep_IncrBoth_1 (_N : Nat) (_x1 : Int × Int × Int) (_x2 : List (List Int × List (Int × Int × Int))) (_x3 : List (List Int × List (Int × Int × Int))) (_x4 : List Int) : Option Rt_keep_IncrBoth :=
  ((D_incr_Two _N ((_x1.1, (_x1.2.1, _x1.2.2)), _x2, _x3, ())).bind fun _y11 => (bif (_y11.2.1 != (0 : Int)) then (some (((_y11.1.length : Int) == (0 : Int)), ())) else ((D_diffs_At _N (_x2, _x4, ())).bind fun _y12 => ((D_diffs_At _N (_x3, _x4, ())).bind fun _y13 => ((D_diffs_At _N (_y11.1, _x4, ())).bind fun _y14 => (bif (_y12.2.1 != (0 : Int)) then (bif (_y12.2.1 != (0 : Int)) then (some (true, ())) else (some ((_y13.2.1 != (0 : Int)), ()))) else (bif (_y13.2.1 != (0 : Int)) then (bif (_y12.2.1 != (0 : Int)) then (some (true, ())) else (some ((_y13.2.1 != (0 : Int)), ()))) else (bif (_y14.2.1 != (0 : Int)) then (bif (_y12.2.1 != (0 : Int)) then (some (true, ())) else (some ((_y13.2.1 != (0 : Int)), ()))) else ((D_ops_Two _N ((_x1.1, (_x1.2.1, _x1.2.2)), _y12.1, _y13.1, ())).bind fun _y15 => (bif (_y15.2.1 == (0 : Int)) then ((D_ref_BagsSame _N (_y14.1, _y15.1, ())).bind fun _y16 => (bif _y16.1 then ((D_keep_total _N (_y12.1, ())).bind fun _y17 => ((D_keep_totalAt _N (_x2, _x4, ())).bind fun _y18 => (bif (_y17.1 == _y18.1) then ((D_keep_total _N (_y13.1, ())).bind fun _y19 => ((D_keep_totalAt _N (_x3, _x4, ())).bind fun _y20 => (some ((_y19.1 == _y20.1), ())))) else (some (false, ()))))) else (some (false, ())))) else (some (false, ()))))))))))))
noncomputable def D_keep_IncrBoth (_N : Nat) (_x : Dens Ks_keep_IncrBoth) : Option Rt_keep_IncrBoth := keep_IncrBoth_1 _N _x.1 _x.2.1 _x.2.2.1 _x.2.2.2.1
theorem sp_keep_IncrBoth (_N : Nat) : SpecD Try.prog [] 6 Ks_keep_IncrBoth Rk_keep_IncrBoth (D_keep_IncrBoth _N) := mkSpD (fn := Try.f6) (c := bodyOf Try.f6) (C := C_keep_IncrBoth _N)
    (a := .none)
    (by kernel_rfl) rfl (by kernel_rfl) (by kernel_rfl) ⟨rfl, by unfold TOk; kernel_rfl, gOk_of rfl rfl (List.forall_mem_cons.2 ⟨qen_incr_Two _N, (List.forall_mem_cons.2 ⟨qen_diffs_At _N, (List.forall_mem_cons.2 ⟨qen_ops_Two _N, (List.forall_mem_cons.2 ⟨en_ref_BagsSame _N, (List.forall_mem_cons.2 ⟨en_keep_total _N, (List.forall_mem_cons.2 ⟨en_keep_totalAt _N, (List.forall_mem_nil _)⟩)⟩)⟩)⟩)⟩)⟩), iOk_of rfl rfl (List.forall_mem_nil _), rfl⟩ (fun _x => by kernel_rfl)
theorem law_IncrBoth (op : Int × Int × Int) (h g : List Df) (t : List Int) (_wo : wfS (.pair (.int .i64) (.pair (.int .i64) (.int .i64))) op) (_wh : wfS (.sl (.pair (.sl (.int .i64)) (.sl (.pair (.int .i64) (.pair (.int .i64) (.int .i64)))))) h) (_wg : wfS (.sl (.pair (.sl (.int .i64)) (.sl (.pair (.int .i64) (.pair (.int .i64) (.int .i64)))))) g) (_wt : wfS (.sl (.int .i64)) t) (hz : h.length * 48 ≤ reachBytes) (gz : g.length * 48 ≤ reachBytes) :
    ∃ N, D_keep_IncrBoth N (op, h, g, t, ()) = some (true, ()) := by
  have hw : h.length < 2000000000000000000 := by unfold reachBytes at hz; omega
  have gw : g.length < 2000000000000000000 := by unfold reachBytes at gz; omega
  obtain ⟨N, hN⟩ : ∃ N, N = h.length + g.length + 1000000 := ⟨_, rfl⟩
  refine ⟨N, ?_⟩
  obtain ⟨k, A, B⟩ := op
  obtain ⟨l, e, a1, a2⟩ := incTwo_eq (N := N) (by omega) k A B (h := h) (g := g) (by omega) (by omega) (by omega) (by omega)
  simp only [D_keep_IncrBoth, keep_IncrBoth_1, a1, Option.bind_some]
  rcases a2 with ⟨rfl, I⟩ | ⟨he, rfl⟩
  case inr => rw [bne_iff_ne.2 he, cond_true]; rfl
  rw [bne_self_eq_false, cond_false]
  have hh := I.hisH.len
  have hg := I.hisK.len
  have hl := I.out.len
  obtain ⟨a, e, b1, b2⟩ := At_eq (N := N) (by omega) (h := h) (by omega) (by omega) t
  obtain ⟨b, x, c1, c2⟩ := At_eq (N := N) (by omega) (h := g) (by omega) (by omega) t
  obtain ⟨c, y, f1, f2⟩ := At_eq (N := N) (by omega) (h := l) (by omega) (by omega) t
  simp only [b1, c1, f1, Option.bind_some]
  by_cases q : e = 0
  case neg => rw [bne_iff_ne.2 q, cond_true, cond_true]
  subst q
  rw [bne_self_eq_false, cond_false, cond_false]
  by_cases q : x = 0
  case neg => rw [bne_iff_ne.2 q, cond_true]
  subst q
  rw [bne_self_eq_false, cond_false]
  obtain ⟨HO, ia, la⟩ := b2 rfl
  obtain ⟨GO, ib, lb⟩ := c2 rfl
  have hone : ∀ d ∈ l, d.1.length = t.length := fun d hd => by
    by_cases q : h ++ g = []
    · obtain ⟨q1, q2⟩ := List.append_eq_nil_iff.1 q
      rw [I.nil q1 q2] at hd; cases hd
    · obtain ⟨x, hx⟩ := List.exists_mem_of_ne_nil _ q
      rw [I.one d hd x hx]
      rcases List.mem_append.1 hx with hx | hx
      · exact HO.one x hx
      · exact GO.one x hx
  obtain ⟨c', c3, c4, c5⟩ := At_ok (N := N) (by omega) I.out HO.tt hone (by omega)
  rw [f1] at c3
  simp only [Option.some.injEq, Prod.mk.injEq, and_true] at c3
  obtain ⟨rfl, rfl⟩ := c3
  rw [bne_self_eq_false, cond_false]
  obtain ⟨r, ⟨r0, a', b', r1, r2, r3, r4, r5⟩, r6⟩ := I.st t HO.tt HO.one GO.one
  obtain rfl := r1.uniq ia
  obtain rfl := r3.uniq ib
  obtain ⟨d, z, o1, o2⟩ := Two_eq (N := N) (by omega) k A B I.kind a' b'
  have hd : z = 0 ∧ d = r := by
    rcases o2 with ⟨h1, h2, h3, h4⟩ | ⟨h1, h2, h3⟩
    · exact ⟨h1, h4.uniq r5⟩
    · rcases h3 with h3 | ⟨l', h3, h4⟩
      · omega
      · obtain rfl := h3.uniq r5; omega
  obtain ⟨rfl, rfl⟩ := hd
  have hcd : c = d := c4.same r5 fun z => (r6 z).trans (r5.amt_cg z)
  subst hcd
  have htot : w (tot a') = w (tot (stL h t)) := tot_cg fun z => ia.amt_cg z
  have htot' : w (tot b') = w (tot (stL g t)) := tot_cg fun z => ib.amt_cg z
  rw [o1, Option.bind_some, beq_self_eq_true, cond_true, Same_eq (by omega) (by omega), Option.bind_some, d_true rfl, cond_true, total_eq (N := N) (l := a') (by omega) (by omega), Option.bind_some, totalAt_eq (N := N) (h := h) (by omega) (by omega) (fun d hd => by have := I.hisH.row hd; omega) (by omega), Option.bind_some, sel_leq HO]
  simp only [htot, beq_self_eq_true, cond_true]
  rw [total_eq (N := N) (l := b') (by omega) (by omega), Option.bind_some, totalAt_eq (N := N) (h := g) (by omega) (by omega) (fun d hd => by have := I.hisK.row hd; omega) (by omega), Option.bind_some, sel_leq GO]
  simp only [htot', beq_self_eq_true]
set_option maxRecDepth 100000 in
theorem lifted_IncrBoth (os : Os) (started : os.Started) (H : Type) (enc : TypeId × Value → H) :
    ReturnsInHanded {} Try.checked os 6 .any (Rows.incrBothSpec.pre6 enc Try.prog Try.f6 Rows.incrBothRow.domain false) (Rows.incrBothSpec.post enc Try.prog Try.f6 false true false false) := by
  refine returnsInHanded_of_change_sized (C := Try.checked) own started (by kernel_rfl) Try.func6
    (ChangeSpec.witness6 (enc := enc) (C := Try.checked) false ⟨#[], #[.agg #[.int .i64 0, .int .i64 0, .int .i64 0], .slice none 0 0, .slice none 0 0, .slice none 0 0], []⟩ 8 (by kernel_rfl) (by kernel_rfl) (by kernel_rfl) (by kernel_rfl)) ?_
  intro W base args ds gs before hval0 hW _ hsz0 _
  have hgw : GW [] W := fun _ h => nomatch h
  have hval : ∀ (j : Nat) t v, Try.f6.params[j]? = some t → args[j]? = some v → Value.okWide Try.prog W .any base t v := hval0
  have hW' := hW
  obtain ⟨p, q, hA0, hV, rfl, _, _⟩ := hW
  have hA : DataW.TrodAll enc Try.prog W 0 (fun _ => true) true Try.f6.params.toList args.toList ds p := hA0
  rw [Try.params6] at hA hval
  obtain ⟨v0, vs0, d0, ds0, p0, q0, hargs, rfl, rfl, h0, r0⟩ := trodAll_cons hA
  obtain ⟨v1, vs1, d1, ds1, p1, q1, rfl, rfl, rfl, h1, r1⟩ := trodAll_cons r0
  obtain ⟨v2, vs2, d2, ds2, p2, q2, rfl, rfl, rfl, h2, r2⟩ := trodAll_cons r1
  obtain ⟨v3, vs3, d3, ds3, p3, q3, rfl, rfl, rfl, h3, r3⟩ := trodAll_cons r2
  obtain ⟨rfl, rfl, rfl⟩ := trodAll_nil r3
  obtain rfl : args = #[v0, v1, v2, v3] := by cases args; simp_all
  obtain ⟨rfl, rfl⟩ := trodVars_none hV
  have hall := List.all_eq_true.1 hsz0
  clear hA0 hval0 hsz0
  simp only [List.append_nil] at hW'
  have hlt0 : ∀ x ∈ p0, x.block < W.heap.size := fun x hx => hW'.lt x (by simp [hx])
  have hlt1 : ∀ x ∈ p1, x.block < W.heap.size := fun x hx => hW'.lt x (by simp [hx])
  have hlt2 : ∀ x ∈ p2, x.block < W.heap.size := fun x hx => hW'.lt x (by simp [hx])
  have hlt3 : ∀ x ∈ p3, x.block < W.heap.size := fun x hx => hW'.lt x (by simp [hx])
  obtain ⟨x0, g0, w0⟩ := open_kd (k := .dat (.pair (.int .i64) (.pair (.int .i64) (.int .i64)))) (by kernel_rfl) (hval 0 46 v0 rfl rfl) h0
  obtain ⟨x1, g1, w1⟩ := open_kd (k := .dat (.sl (.pair (.sl (.int .i64)) (.sl (.pair (.int .i64) (.pair (.int .i64) (.int .i64))))))) (by kernel_rfl) (hval 1 22 v1 rfl rfl) h1
  obtain ⟨x2, g2, w2⟩ := open_kd (k := .dat (.sl (.pair (.sl (.int .i64)) (.sl (.pair (.int .i64) (.pair (.int .i64) (.int .i64))))))) (by kernel_rfl) (hval 2 22 v2 rfl rfl) h2
  obtain ⟨x3, g3, w3⟩ := open_kd (k := .dat (.sl (.int .i64))) (by kernel_rfl) (hval 3 32 v3 rfl rfl) h3
  have z1 : x1.length * Try.prog.bytesOf 64 ≤ reachBytes := open_room (t := 22) (r1 := []) (by kernel_rfl) g1 h1 fun n hn => by
    refine of_decide_eq_true (hall n ?_)
    rw [Try.params6]
    change n ∈ DataW.weightsEach Try.prog [46, 22, 22, 32] [d0, d1, d2, d3]
    simp only [DataW.weightsEach]
    exact List.mem_append_right _ (List.mem_append_left _ (by simpa using hn))
  have z2 : x2.length * Try.prog.bytesOf 64 ≤ reachBytes := open_room (t := 22) (r1 := []) (by kernel_rfl) g2 h2 fun n hn => by
    refine of_decide_eq_true (hall n ?_)
    rw [Try.params6]
    change n ∈ DataW.weightsEach Try.prog [46, 22, 22, 32] [d0, d1, d2, d3]
    simp only [DataW.weightsEach]
    exact List.mem_append_right _ (List.mem_append_right _ (List.mem_append_left _ (by simpa using hn)))
  obtain ⟨N, hN⟩ := law_IncrBoth x0 x1 x2 x3 w0 w1 w2 w3 (by simpa only [show Try.prog.bytesOf 64 = 48 by kernel_rfl] using z1) (by simpa only [show Try.prog.bytesOf 64 = 48 by kernel_rfl] using z2)
  refine (sp_keep_IncrBoth N (fun _ => False) W (x0, x1, x2, x3, ()) (true, ()) [v0, v1, v2, v3] (fun _ h => h.elim) hgw ⟨v0, _, rfl, g0, ⟨v1, _, rfl, g1, ⟨v2, _, rfl, g2, ⟨v3, _, rfl, g3, rfl⟩⟩⟩⟩ hN).mono ?_
  rintro e W' ⟨v, rfl, hg, hr⟩
  replace hg := hg.old
  have hr : v = .bool true := by simpa only [kvals, retV, Kd.val, Go.Abs.enc, RV] using hr
  subst hr
  exact ⟨_, rfl, _, _, _, [], p0 ++ (p1 ++ (p2 ++ (p3 ++ []))), [], hW', (trodAll_cons_mk (shut_bool (show Try.prog.underlying 4 = some .bool by kernel_rfl) _) trodAll_mk0), (trodAll_cons_mk (Below.trod laidOut (by kernel_rfl) (of_decide_eq_true (by kernel_rfl)) h0 hg hlt0) (trodAll_cons_mk (Below.trod laidOut (by kernel_rfl) (of_decide_eq_true (by kernel_rfl)) h1 hg hlt1) (trodAll_cons_mk (Below.trod laidOut (by kernel_rfl) (of_decide_eq_true (by kernel_rfl)) h2 hg hlt2) (trodAll_cons_mk (Below.trod laidOut (by kernel_rfl) (of_decide_eq_true (by kernel_rfl)) h3 hg hlt3) trodAll_mk0)))), rfl, hg.frame _, fun h => by cases h⟩
theorem incrBoth_holds : Rows.IncrBothSaid :=
  OpenClaim.holds_of_wide 6 Try.f6 rfl rfl rfl rfl rfl rfl rfl ⟨rfl, rfl, rfl, rfl, rfl⟩ rfl rfl rfl rfl rfl (by kernel_rfl) Try.func6 (by kernel_rfl)
    (of_decide_eq_true (by kernel_rfl)) (by unfold Func.isWrapper; first | (rw [if_pos (by decide +kernel)]; kernel_rfl) | (rw [if_neg (by decide +kernel)]; exact ⟨rfl, rfl⟩))
    (fun os started H enc _ => lifted_IncrBoth os started H enc)
end Go.Proofs.Ytnieamciihdfpaa
