/- Every operation, in whatever manner it is carried out. -/
import Derived.Test.YtdbjfdjpmoackaaDoorAbsOpsS4
namespace Go.Abs
open Go.RowKit
section
variable {P : Program} {C : Ctx} {r : Option Nat} {n : Nat} {w0 : World} {A M0 : Nat → Prop} {w w' : World} {h hm H : List O} {σ : Nat → Loc} {t : Nat → V} {a : Act} {o : Oper} {ρ : Type} {nid : Nat} {ob : O}
theorem PostR.toW (R : Rep w0 A M0 w h σ) {v : V} {x : Value} (hp : PostR M0 w h σ v x w') : PostW w0 A M0 w h σ h v x w' := ⟨σ, Next.grow R hp.1, hp.2⟩
theorem getO_end (h : List O) : getO h h.length = .none := by simp [getO, List.getD]
theorem evW_sound (hT : TOk P C.T) (hG : GOk P C) (hL : Gl C.gs w0 A) (R : Rep w0 A M0 w h σ) (hrt : ∀ i, RV w (mutb M0 h σ) h σ (t i) (a.tmps.getD i undef)) {K : V → List O → Option ρ} {res : ρ} (hb : evW C o.op t h K = some res) :
    ∃ v H, K v H = some res ∧ Does r n P o a w (PostW w0 A M0 w h σ H v) := by
  unfold evW at hb
  cases hS : isS o.op with
  | true =>
    rw [hS] at hb
    simp only [cond_true] at hb
    obtain ⟨v, ss, mk, h1, h2⟩ := evS_sound (r := r) (n := n) hT R (Sub.refl h) hrt hS hb
    refine ⟨v, _, h1, h2 _ ?_ (fun _ => getO_end h)⟩
    cases mk with
    | none => simp [Applied]
    | some ob =>
      simp only [Applied, Option.toList]
      refine ⟨by rw [getO_append, if_pos (by rw [setAll_length])], fun o' hne => by rw [getO_append, if_neg (by rw [setAll_length]; exact hne)]⟩
  | false =>
    rw [hS] at hb
    simp only [cond_false] at hb
    split at hb
    · rename_i f args hc
      obtain ⟨c, ho, hcv, hca⟩ : ∃ c, o.op = .call c ∧ c.callee = .value f ∧ c.args = args := by
        unfold callee? at hc
        split at hc
        · rename_i c ho
          split at hc
          · rename_i f' hf'
            simp only [Option.some.injEq, Prod.mk.injEq] at hc
            exact ⟨c, ho, by rw [hf', hc.1], hc.2⟩
          · cases hc
        · cases hc
      subst hca
      have hev := ev_sound hrt f
      unfold callWK at hb
      split at hb
      · rename_i g caps e
        rw [e] at hev
        simp only [RV] at hev
        obtain ⟨vs, hv, hcaps⟩ := hev
        split at hb
        · cases hb
        · rename_i p hp
          cases hpr : p.r with
          | none => rw [hpr] at hb; cases hb
          | some y =>
            rw [hpr] at hb
            obtain ⟨fn, code, h1, h2, h3⟩ := hG.fn (tgtF g) _ _ _ hp
            have hargs := rvs_args g (xs := c.args.map a.eval) (by rw [Array.toList_map]; exact evs_sound hrt c.args.toList) hcaps
            cases hph : p.h with
            | none =>
              rw [hph] at hb
              have := hG.rd (tgtF g) _ h h p y (Sub.refl h) hp hph hpr w0 A M0 w σ hL R _ hargs
              rw [Array.toArray_toList] at this
              refine ⟨_, _, hb, does_call ho hcv hv h1 h2 h3 (this.mono fun e w' ⟨x, h1, h2, h3⟩ => ⟨x, h1, PostR.toW R ⟨h2, h3⟩⟩)⟩
            | some u =>
              rw [hph] at hb
              have := hG.wr (tgtF g) _ h p u y hp hph hpr w0 A M0 w σ hL R _ hargs
              rw [Array.toArray_toList] at this
              refine ⟨_, _, hb, does_call ho hcv hv h1 h2 h3 (this.mono fun e w' ⟨x, σ', h1, h2, h3⟩ => ⟨x, h1, σ', h2, h3⟩)⟩
      · cases hb
    · obtain ⟨v, h1, h2⟩ := evR_sound (r := r) (n := n) hT hG hL R (Sub.refl h) hrt hb
      exact ⟨v, h, h1, h2.mono fun x w' hp => PostR.toW R hp⟩
theorem onlyF_get (p : Nat → Bool) : (i : Nat) → (h : List O) → (j : Nat) → getO (onlyF p i h) j = if p (i + j) then getO h j else .none
  | i, [], j => by simp [onlyF, getO]
  | i, x :: h, j => by
    cases j with
    | zero =>
      simp only [onlyF, Nat.add_zero]
      cases p i <;> simp [getO]
    | succ j =>
      have := onlyF_get p (i + 1) h j
      simp only [onlyF]
      show getO (onlyF p (i + 1) h) j = if p (i + (j + 1)) then getO h j else .none
      rw [this, show i + 1 + j = i + (j + 1) by omega]
theorem onlyF_sub (ids : List Nat) (h : List O) : Sub (onlyF (memN ids) 0 h) h := fun o => by
  rw [onlyF_get]
  split
  · exact .inr rfl
  · exact .inl rfl
theorem Sub.nil (h : List O) : Sub [] h := fun o => .inl (by simp [getO])
/-- **What the abstract machine says of an operation, in whatever manner it is carried out, is so.** -/
theorem evM_sound (hT : TOk P C.T) (hG : GOk P C) (hL : Gl C.gs w0 A) (R : Rep w0 A M0 w h σ) (hrt : ∀ i, RV w (mutb M0 h σ) h σ (t i) (a.tmps.getD i undef)) {md : Md} {K : V → List O → Option ρ} {res : ρ} (hb : evM C o.op t h md K = some res) :
    ∃ v H, K v H = some res ∧ Does r n P o a w (PostW w0 A M0 w h σ H v) := by
  unfold evM at hb
  cases md with
  | pure =>
    simp only at hb
    obtain ⟨v, h1, h2⟩ := evR_sound (r := r) (n := n) hT hG hL R (Sub.nil h) hrt hb
    exact ⟨v, h, h1, h2.mono fun x w' hp => PostR.toW R hp⟩
  | rd ids =>
    simp only at hb
    obtain ⟨v, h1, h2⟩ := evR_sound (r := r) (n := n) hT hG hL R (onlyF_sub ids h) hrt hb
    exact ⟨v, h, h1, h2.mono fun x w' hp => PostR.toW R hp⟩
  | wr ids =>
    obtain ⟨hS, hb⟩ := cond_some hb
    obtain ⟨v, ss, mk, h1, h2⟩ := evS_sound (r := r) (n := n) hT R (onlyF_sub ids h) hrt hS hb
    cases mk with
    | some x => cases h1
    | none =>
      simp only at h1
      obtain ⟨_, h1⟩ := cond_some h1
      exact ⟨v, _, h1, h2 _ rfl (fun hh => by cases hh)⟩
  | new id =>
    obtain ⟨hS, hb⟩ := cond_some hb
    obtain ⟨v, ss, mk, h1, h2⟩ := evS_sound (r := r) (n := n) hT R (Sub.nil h) hrt hS hb
    cases ss with
    | cons p ss => cases h1
    | nil =>
      cases mk with
      | none => cases h1
      | some x =>
        simp only at h1
        cases hg : getO h id with
        | none =>
          rw [hg] at h1
          simp only at h1
          obtain ⟨hlt, h1⟩ := cond_some h1
          have hlt : id < h.length := Nat.le_of_ble_eq_true hlt
          have hgs := getO_set hlt x
          refine ⟨v, _, h1, h2 _ ⟨by rw [hgs, if_pos rfl], fun o' hne => by rw [hgs, if_neg (fun e => hne e.symm)]; rfl⟩ (fun _ => hg)⟩
        | cells vs => rw [hg] at h1; cases h1
        | row fz ver e s xs => rw [hg] at h1; cases h1
  | full => exact evW_sound hT hG hL R hrt hb
end
end Go.Abs
