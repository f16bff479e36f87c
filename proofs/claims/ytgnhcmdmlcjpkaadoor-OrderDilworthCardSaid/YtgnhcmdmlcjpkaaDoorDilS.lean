/- order.Split: tries and reach, what they come to. -/
import Derived.Test.YtgnhcmdmlcjpkaaDoorDil
import Derived.Test.YtgnhcmdmlcjpkaaDoorDilP
import Derived.Test.YtgnhcmdmlcjpkaaDoorCheckS
import Derived.Test.YtgnhcmdmlcjpkaaDoorCoversS
import Derived.Test.YtgnhcmdmlcjpkaaDoorAbsLat
namespace Go.Proofs.YtgnhcmdmlcjpkaaDoor
open Go.Abs
theorem List32_eq {N : Nat} {w : Int} (hw : W32 w) : D_sets_List_uint32 N (w, ()) = some ((els w).map fun (i : Nat) => (i : Int)) := by
  simp only [D_sets_List_uint32, sets_List_uint32_3, joinD, forE, Each_eq N w, Option.bind_some]
  rw [forD_app hw (fun (i : Nat) => (i : Int)) 40 (fun j _ _ s kn hs => ?_) [] (by simp)]
  · simp only [sets_List_uint32_1, List.nil_append]
  · simp only [sets_List_uint32_2, backE_eq]
    rw [d_true (by simp only [List.length_singleton]; omega), show Nat.ble 1 8 = true from rfl, Bool.and_self, cond_true]
def slt (up : List Int) (i j : Nat) : Prop := le up i j ∧ i ≠ j
theorem slt_so {m : Nat} {up : List Int} (ho : Ord (m : Int) up) : Dil.So m (slt up) where
  irr := fun a h => h.2 rfl
  trans := fun a b c ha hb hc h1 h2 => ⟨ho.trans a b c (by simpa using ha) (by simpa using hb) h1.1 h2.1, fun e => by
    subst e
    exact h1.2 (ho.anti a b (by simpa using ha) (by simpa using hb) h1.1 h2.1)⟩
theorem upd_set {xs : List Int} {i : Nat} {v : Int} (h : i < xs.length) : nth 0 (xs.set i v) = Dil.upd (nth 0 xs) i v := by
  funext k
  rw [nth_set h]
  unfold Dil.upd
  by_cases e : i = k
  · rw [if_pos e, if_pos e.symm]
  · rw [if_neg e, if_neg fun h => e h.symm]
theorem bt_or1 {w : Int} (hw : W32 w) {y : Nat} (hy : y < 32) : (fun x => bt (ior .u32 w (one y)) x = true) = fun x => bt w x = true ∨ x = y := by
  funext x
  rw [bt_ior hw (W32.one y), bt_one hy]
  simp
theorem slt_els {m : Nat} {up : List Int} (hw : WL up) (hm : m ≤ 16) {i : Nat} (hi : i < m) {seen : Int} (hs : W32 seen) (y : Nat) : y ∈ els (iandNot .u32 (iandNot .u32 (nth 0 up i) (one i)) seen) ↔ slt up i y ∧ bt seen y = false := by
  rw [mem_els W32.iandNot, bt_iandNot W32.iandNot hs, bt_iandNot (hw.nth i) (W32.one i), bt_one (by omega)]
  unfold slt le
  simp only [Bool.and_eq_true, Bool.not_eq_true', decide_eq_false_iff_not, ne_eq, eq_comm (a := y)]
/-- What a try hands back. -/
def TryQ (m : Nat) (up : List Int) (i : Nat) (st : Option Nat) (nx ls : List Int) (s0 : Nat → Prop) (r : Option Rt_order_matching_tries_h) : Prop :=
  (∃ seen', W32 seen' ∧ r = some (false, (m : Int), up, seen', nx, ls) ∧ Dil.Fl m (slt up) i (nth 0 ls) s0 (fun j => bt seen' j = true)) ∨
  (∃ seen' nx' ls', W32 seen' ∧ List.length nx' = m ∧ List.length ls' = m ∧ (∀ j, j < m → -1 ≤ nth 0 ls' j) ∧ r = some (true, (m : Int), up, seen', nx', ls') ∧ Dil.Tr m (slt up) i st (nth 0 nx) (nth 0 ls) s0 (nth 0 nx') (nth 0 ls'))
theorem tries_eq {N m : Nat} {up : List Int} (hm : m ≤ 16) (hw : WL up) (ho : Ord (m : Int) up) : ∀ (f i : Nat) (st : Option Nat) (nx ls : List Int) (seen : Int), nx.length = m → ls.length = m → W32 seen → Dil.Sr m (slt up) i st (nth 0 nx) (nth 0 ls) (fun j => bt seen j = true) → ((List.range m).filter fun j => !bt seen j).length < f →
    TryQ m up i st nx ls (fun j => bt seen j = true) (R_order_matching_tries_h N f ((i : Int), (m : Int), up, seen, nx, ls)) := by
  have hul : up.length = m := by have := ho.len; omega
  have hin : ∀ i, i < m → ∀ j, le up i j → j < m := by simpa using ho.inn
  intro f
  induction f with
  | zero => intro i st nx ls seen _ _ _ _ h; omega
  | succ f ih =>
    intro i st nx ls seen hnx hls hsn hr hf
    have hi := hr.hi
    rw [R_order_matching_tries_h]
    simp only [S_order_matching_tries_h, order_matching_tries_h_3, joinD, ge0_d, lt_d (show i < up.length by omega), Bool.and_self, cond_true, One_eq N i, Each_eq N, Option.bind_some, forE, Int.toNat_natCast]
    rw [eachXs_els W32.iandNot]
    have key : ∀ (F : Int → (Int × List Int × Int × List Int × List Int) → ((Int × List Int × Int × List Int × List Int) → Option Rt_order_matching_tries_h) → Option Rt_order_matching_tries_h) (G : (Int × List Int × Int × List Int × List Int) → Option Rt_order_matching_tries_h), (∀ y s kn, F y s kn = order_matching_tries_h_2 N (R_order_matching_tries_h N f) (i : Int) false s.1 s.2.1 s.2.2.1 s.2.2.2.1 s.2.2.2.2 (backE ((i : Int), false) kn) y) → (∀ s, G s = order_matching_tries_h_1 N s.1 s.2.1 s.2.2.1 s.2.2.2.1 s.2.2.2.2) → ∀ (L : List Nat) (s1 : Int), W32 s1 → Dil.Pt m (slt up) (nth 0 ls) (fun j => bt seen j = true) (fun j => bt s1 j = true) → (∀ y ∈ L, slt up i y) → (∀ j, j < m → slt up i j → j ∈ L ∨ bt s1 j = true) →
        TryQ m up i st nx ls (fun j => bt seen j = true) (forD F G (L.map fun (i : Nat) => (i : Int)) ((m : Int), up, s1, nx, ls)) := by
      intro F G hF hG L
      induction L with
      | nil =>
        intro s1 h1 hp _ hall
        exact Or.inl ⟨s1, h1, hG _, hp.fl fun j hj hl => (hall j hj hl).elim (fun h => by cases h) id⟩
      | cons y L ihL =>
        intro s1 h1 hp hy hall
        have hiy := hy y (by simp)
        have hym := hin i hi y hiy.1
        rw [List.map_cons, forD_cons, hF]
        simp only [order_matching_tries_h_2, Has_eq N h1 y, Option.bind_some, backE_eq]
        cases q : bt s1 y with
        | true =>
          simp only [cond_true]
          exact ihL s1 h1 hp (fun z hz => hy z (by simp [hz])) fun j hj hl => (hall j hj hl).elim (fun h => (List.mem_cons.1 h).elim (fun e => Or.inr (e ▸ q)) Or.inl) Or.inr
        | false =>
          have hw2 : W32 (ior .u32 s1 (one y)) := W32.ior
          simp only [cond_false, One_eq N y, Option.bind_some, ge0_d, lt_d (show y < ls.length by omega), lt_d (show i < nx.length by omega), Bool.and_self, cond_true, Int.toNat_natCast]
          have hns : ¬ (fun j => bt s1 j = true) y := by simp [q]
          by_cases q2 : nth 0 ls y < 0
          · simp only [d_true q2, cond_true]
            refine Or.inr ⟨_, _, _, hw2, by simpa using hnx, by simpa using hls, fun j hj => ?_, rfl, ?_⟩
            · rw [nth_set (by omega)]
              split
              · omega
              · exact hr.m1 j hj
            · rw [upd_set (by omega), upd_set (by omega)]
              exact Dil.Tr.free hr hp.mono hym hiy q2 hns
          · obtain ⟨k, hk⟩ : ∃ k : Nat, nth 0 ls y = k := ⟨(nth 0 ls y).toNat, by omega⟩
            simp only [d_false q2, cond_false, hk]
            have hs2 := bt_or1 h1 (show y < 32 by omega)
            have hsub := ih k (some y) nx ls (ior .u32 s1 (one y)) hnx hls hw2 (by rw [hs2]; exact hr.step hym hk) (by
              have hlt : ((List.range m).filter fun j => !bt (ior .u32 s1 (one y)) j).length < ((List.range m).filter fun j => !bt seen j).length := by
                refine Go.Abs.filter_lt _ (fun x hx h => ?_) ⟨y, List.mem_range.2 hym, ?_, ?_⟩
                · have h' : ¬ (bt (ior .u32 s1 (one y)) x = true) := by simpa using h
                  have := congrFun hs2 x
                  simp only [Bool.not_eq_true']
                  cases q3 : bt seen x with
                  | false => rfl
                  | true => exact absurd (by rw [this]; exact Or.inl (hp.mono x q3)) h'
                · cases q3 : bt seen y with
                  | false => rfl
                  | true => exact absurd (hp.mono y q3) (by simp [q])
                · have := congrFun hs2 y
                  simp only [or_true, eq_iff_iff, iff_true] at this
                  rw [this]; rfl
              omega)
            rw [hs2] at hsub
            rcases hsub with ⟨s3, h3, e3, hf3⟩ | ⟨s3, nx3, ls3, h3, hn3, hl3, hm3, e3, ht3⟩
            · rw [e3, Option.bind_some]
              simp only [cond_false]
              exact ihL s3 h3 (hp.more hk hf3) (fun z hz => hy z (by simp [hz])) fun j hj hl => (hall j hj hl).elim (fun h => (List.mem_cons.1 h).elim (fun e => Or.inr (hf3.mono j (Or.inr e))) Or.inl) fun h => Or.inr (hf3.mono j (Or.inl h))
            · rw [e3, Option.bind_some]
              simp only [cond_true, lt_d (show i < nx3.length by omega), lt_d (show y < ls3.length by omega), Bool.and_self]
              refine Or.inr ⟨_, _, _, h3, by simpa using hn3, by simpa using hl3, fun j hj => ?_, rfl, ?_⟩
              · rw [nth_set (by omega)]
                split
                · omega
                · exact hm3 j hj
              · rw [upd_set (by omega), upd_set (by omega)]
                exact Dil.Tr.push hr hp.mono hym hiy hk hns ht3
    exact key _ _ (fun _ _ _ => rfl) (fun _ => rfl) _ seen hsn Dil.Pt.refl (fun y hy => ((slt_els hw hm hi hsn y).1 hy).1) fun j hj hl => by
      cases q : bt seen j with
      | true => exact Or.inr rfl
      | false => exact Or.inl ((slt_els hw hm hi hsn j).2 ⟨hl, q⟩)
theorem reach_eq {N m : Nat} {up nx ls : List Int} (hm : m ≤ 16) (hw : WL up) (ho : Ord (m : Int) up) (hls : ls.length = m) (hv : Dil.Vl m (slt up) (nth 0 nx) (nth 0 ls)) (a b : Int) (c : List Int) (d : Int) : ∀ (f i : Nat) (l r : Int), i < m → W32 l → W32 r → bt l i = false → (∀ x, bt l x = true → x < m) → ((List.range m).filter fun j => !bt l j).length < f →
    ∃ l' r', W32 l' ∧ W32 r' ∧ (∀ x, bt l' x = true → x < m) ∧ R_order_Split_c1_h N f ((i : Int), l, a, up, r, b, c, d, nx, ls) = some (l', a, up, r', b, c, d, nx, ls) ∧ Dil.Rc m (slt up) i (nth 0 ls) (fun j => bt l j = true) (fun j => bt r j = true) (fun j => bt l' j = true) (fun j => bt r' j = true) := by
  have hul : up.length = m := by have := ho.len; omega
  have hin : ∀ i, i < m → ∀ j, le up i j → j < m := by simpa using ho.inn
  intro f
  induction f with
  | zero => intro i l r _ _ _ _ _ h; omega
  | succ f ih =>
    intro i l r hi hl hr hli hlm hf
    rw [R_order_Split_c1_h]
    simp only [S_order_Split_c1_h, order_Split_c1_h_2, joinD, ge0_d, lt_d (show i < up.length by omega), Bool.and_self, cond_true, One_eq N i, Each_eq N, Option.bind_some, forE, Int.toNat_natCast]
    rw [eachXs_els W32.iandNot]
    have hs1 := bt_or1 hl (show i < 32 by omega)
    have hcnt : ∀ (l' : Int), (∀ j, bt (ior .u32 l (one i)) j = true → bt l' j = true) → ((List.range m).filter fun j => !bt l' j).length < f := fun l' h => by
      have : ((List.range m).filter fun j => !bt l' j).length < ((List.range m).filter fun j => !bt l j).length := by
        refine Go.Abs.filter_lt _ (fun x hx h' => ?_) ⟨i, List.mem_range.2 hi, by simp [hli], ?_⟩
        · cases q3 : bt l x with
          | false => rfl
          | true =>
            have h2 := h x (by rw [congrFun hs1 x]; exact Or.inl q3)
            simp [h2] at h'
        · have h2 := h i (by rw [congrFun hs1 i]; exact Or.inr rfl)
          simp [h2]
      omega
    have key : ∀ (F : Int → (Int × Int × List Int × Int × Int × List Int × Int × List Int × List Int) → ((Int × Int × List Int × Int × Int × List Int × Int × List Int × List Int) → Option Rt_order_Split_c1_h) → Option Rt_order_Split_c1_h) (G : (Int × Int × List Int × Int × Int × List Int × Int × List Int × List Int) → Option Rt_order_Split_c1_h), (∀ y s kn, F y s kn = order_Split_c1_h_1 N (R_order_Split_c1_h N f) s.1 s.2.1 s.2.2.1 s.2.2.2.1 s.2.2.2.2.1 s.2.2.2.2.2.1 s.2.2.2.2.2.2.1 s.2.2.2.2.2.2.2.1 s.2.2.2.2.2.2.2.2 (backE () kn) y) → (∀ s, G s = some s) → ∀ (L : List Nat) (l' r' : Int), W32 l' → W32 r' → Dil.Rp m (slt up) i (nth 0 ls) (fun j => bt l j = true) (fun j => bt r j = true) (fun j => bt l' j = true) (fun j => bt r' j = true) → (∀ j, bt (ior .u32 l (one i)) j = true → bt l' j = true) → (∀ x, bt l' x = true → x < m) → (∀ y ∈ L, slt up i y) → (∀ j, j < m → slt up i j → j ∈ L ∨ bt r' j = true) →
        ∃ l2 r2, W32 l2 ∧ W32 r2 ∧ (∀ x, bt l2 x = true → x < m) ∧ forD F G (L.map fun (i : Nat) => (i : Int)) (l', a, up, r', b, c, d, nx, ls) = some (l2, a, up, r2, b, c, d, nx, ls) ∧ Dil.Rc m (slt up) i (nth 0 ls) (fun j => bt l j = true) (fun j => bt r j = true) (fun j => bt l2 j = true) (fun j => bt r2 j = true) := by
      intro F G hF hG L
      induction L with
      | nil =>
        intro l' r' h1 h2 hp _ hlo _ hall
        exact ⟨l', r', h1, h2, hlo, hG _, hp.done fun j hj hlt => (hall j hj hlt).elim (fun h => by cases h) id⟩
      | cons y L ihL =>
        intro l' r' h1 h2 hp hmono hlo hy hall
        have hiy := hy y (by simp)
        have hym := hin i hi y hiy.1
        rw [List.map_cons, forD_cons, hF]
        simp only [order_Split_c1_h_1, Has_eq N h2 y, Option.bind_some, backE_eq]
        have hw2 : W32 (ior .u32 r' (one y)) := W32.ior
        have hs2 := bt_or1 h2 (show y < 32 by omega)
        have hnext : ∀ (r3 : Int), (∀ j, (bt r' j = true ∨ j = y) → bt r3 j = true) → ∀ j, j < m → slt up i j → j ∈ L ∨ bt r3 j = true := fun r3 h j hj hl => (hall j hj hl).elim (fun h' => (List.mem_cons.1 h').elim (fun e => Or.inr (h j (Or.inr e))) Or.inl) fun h' => Or.inr (h j (Or.inl h'))
        cases q : bt r' y with
        | true =>
          simp only [Bool.not_true, cond_false]
          exact ihL l' r' h1 h2 hp hmono hlo (fun z hz => hy z (by simp [hz])) (hnext r' fun j h => h.elim id fun e => e ▸ q)
        | false =>
          simp only [Bool.not_false, cond_true, One_eq N y, Option.bind_some, ge0_d, lt_d (show y < ls.length by omega), Bool.and_self, Int.toNat_natCast]
          have hskip : (∀ k : Nat, nth 0 ls y = k → bt l' k = true) → Dil.Rp m (slt up) i (nth 0 ls) (fun j => bt l j = true) (fun j => bt r j = true) (fun j => bt l' j = true) (fun j => bt (ior .u32 r' (one y)) j = true) := fun h => by
            rw [hs2]; exact hp.skip hiy h
          have hmo : ∀ j, (bt r' j = true ∨ j = y) → bt (ior .u32 r' (one y)) j = true := fun j h => by rw [congrFun hs2 j]; exact h
          by_cases q2 : nth 0 ls y ≥ 0
          · obtain ⟨k, hk⟩ : ∃ k : Nat, nth 0 ls y = k := ⟨(nth 0 ls y).toNat, by omega⟩
            have hkm := (hv.bw y hym k hk).1
            simp only [d_true q2, cond_true, hk, Has_eq N h1 k, Option.bind_some]
            cases q3 : bt l' k with
            | true =>
              simp only [Bool.not_true, cond_false]
              exact ihL l' _ h1 hw2 (hskip fun k' e => by obtain rfl : k = k' := by omega
                                                          exact q3) hmono hlo (fun z hz => hy z (by simp [hz])) (hnext _ hmo)
            | false =>
              simp only [Bool.not_false, cond_true]
              obtain ⟨l3, r3, w1, w2, hlo3, e3, hc⟩ := ih k l' (ior .u32 r' (one y)) hkm h1 hw2 q3 hlo (hcnt l' hmono)
              rw [e3, Option.bind_some]
              rw [hs2] at hc
              exact ihL l3 r3 w1 w2 (hp.more hym hiy hk hc) (fun j h => hc.ml j (hmono j h)) hlo3 (fun z hz => hy z (by simp [hz])) (hnext _ fun j h => hc.mr j h)
          · simp only [d_false q2, cond_false]
            exact ihL l' _ h1 hw2 (hskip fun k' e => by omega) hmono hlo (fun z hz => hy z (by simp [hz])) (hnext _ hmo)
    refine key _ _ (fun _ _ _ => rfl) (fun _ => rfl) _ _ r W32.ior hr ?_ (fun j h => h) (fun x h => by
      rw [congrFun hs1 x] at h
      rcases h with h | h
      · exact hlm x h
      · omega) (fun y hy => ?_) fun j hj hl' => Or.inl ?_
    · rw [hs1]; exact Dil.Rp.init
    · rw [mem_els W32.iandNot, bt_iandNot (hw.nth i) (W32.one i), bt_one (by omega)] at hy
      simp only [Bool.and_eq_true, Bool.not_eq_true', decide_eq_false_iff_not] at hy
      exact ⟨hy.1, fun e => hy.2 e.symm⟩
    · rw [mem_els W32.iandNot, bt_iandNot (hw.nth i) (W32.one i), bt_one (by omega)]
      simp only [Bool.and_eq_true, Bool.not_eq_true', decide_eq_false_iff_not]
      exact ⟨hl'.1, fun e => hl'.2 e.symm⟩
end Go.Proofs.YtgnhcmdmlcjpkaaDoor
