/- Data read off the abstract machine's values stand for what the values stand for. -/
import Derived.Test.YtdbjfdjpmoackaaDoorAbsRep
namespace Go.Abs
open Go.RowKit

theorem castSh_some {s s' : Sh} {x : s.den} {y : s'.den} (h : castSh x = some y) : ∃ e : s = s', y = e ▸ x := by
  unfold castSh at h
  split at h
  · rename_i e; exact ⟨e, by simpa using h.symm⟩
  · cases h
/-- One list of objects is the other, but for what is hidden. -/
def Sub (hm h : List O) : Prop := ∀ o, getO hm o = .none ∨ getO hm o = getO h o
theorem Sub.refl (h : List O) : Sub h h := fun _ => .inr rfl
theorem Sub.get {hm h : List O} (s : Sub hm h) {o : Nat} {x : O} (e : getO hm o = x) (hx : x ≠ .none) : getO h o = x := by
  rcases s o with h' | h'
  · rw [e] at h'; exact absurd h' hx
  · rw [← h', e]
theorem rowV_sl {w : World} {e : TypeId} {s : Sh} {l : Loc} {xs : List s.den} {cs : List Value} {M Mt : Nat → Prop} (h : w.ownsRow 0 e s.n (rowV l xs.length) xs.length cs) (hr : RL w M s xs cs)
    (hsub : ∀ b, Mt b → M b) (hb : ∀ b, l.a = some b → ¬ Mt b) : RC w Mt (.sl s) xs [rowV l xs.length] := by
  simp only [RC]
  have h0 := h
  rcases h.2 with ⟨hv, hn⟩ | ⟨g, cap, cur, hv, _, hg, hle, hcap, hsz, htake⟩
  · refine ⟨none, 0, by rw [hv, hn], by omega, Nat.zero_le _, fun hne => absurd (List.eq_nil_of_length_eq_zero hn) hne⟩
  · refine ⟨some ⟨g, 0, none⟩, cap, by rw [hv], hle, by simpa [maxLen, maxI] using hcap, fun _ => ⟨g, 0, rfl, (Array.getElem?_eq_some_iff.1 hg).1, ?_, ?_⟩⟩
    · simp only [rowV, Loc.addr, Value.slice.injEq] at hv
      cases hla : l.a with
      | none => rw [hla] at hv; simp at hv
      | some b => rw [hla] at hv; simp at hv; exact hb g (by rw [hla, hv.1])
    · rw [hv] at h0
      have hc : CellsAt w g 0 cs := fun j v hj => by
        rw [Nat.zero_add, World.ownsRow.cellAt h0 j (by have := (List.getElem?_eq_some_iff.1 hj).1; rw [hr.length] at this; exact this)]
        exact hj
      have := RL.row hr hc
      intro i x hx
      obtain ⟨c, h1, h2⟩ := this i x hx
      exact ⟨c, h1, RC.sub hsub h2⟩
/-- What a value that holds a row of the objects asks, so that the row's block lies outside Mt. -/
def RefOk (hm : List O) (σ : Nat → Loc) (Mt : Nat → Prop) (v : V) : Prop :=
  ∀ o ver, v = .slc o ver → ∀ ver' e s xs, getO hm o = .row false ver' e s xs → ver = ver' → ∀ b, (σ o).a = some b → ¬ Mt b
section
variable {w0 : World} {A M0 : Nat → Prop} {w : World} {h hm : List O} {σ : Nat → Loc}
theorem decSl_sound (R : Rep w0 A M0 w h σ) (hs : Sub hm h) {Mt : Nat → Prop} (hsub : ∀ b, Mt b → mutb M0 h σ b) {s : Sh} {v : V} {x : Value} (hv : RV w (mutb M0 h σ) h σ v x) (hr : RefOk hm σ Mt v)
    {xs : List s.den} (hd : decSl hm s v = some xs) : RC w Mt (.sl s) xs [x] := by
  cases v with
  | nil =>
    simp only [decSl, Option.some.injEq] at hd
    subst hd
    simp only [RV] at hv
    subst hv
    exact ⟨none, 0, rfl, Nat.le_refl _, Nat.zero_le _, fun h => absurd rfl h⟩
  | sl s' ys =>
    simp only [decSl] at hd
    obtain ⟨e, rfl⟩ := castSh_some hd
    cases e
    simp only [RV] at hv
    exact RC.sub hsub hv
  | slc o ver =>
    simp only [decSl] at hd
    split at hd
    · rename_i fz ver' e s' ys eo
      cases hvv : Nat.beq ver ver' with
      | false => simp [hvv] at hd
      | true =>
        have hvv' := Nat.eq_of_beq_eq_true hvv
        simp only [hvv, cond_true] at hd
        obtain ⟨ee, rfl⟩ := castSh_some hd
        cases ee
        simp only [RV] at hv
        obtain ⟨fz1, ver1, e1, s1, xs1, eo1, hl, _, hx⟩ := hv
        have eh := hs.get eo (by simp)
        rw [eh] at eo1
        cases eo1
        rw [hx hvv']
        have ro := R.obj o
        rw [eh] at ro
        cases fz with
        | true => exact RC.sub hsub ro.2.1
        | false =>
          obtain ⟨_, cs, h1, h2⟩ := ro
          exact rowV_sl h1 h2 hsub (fun b hb => hr o ver rfl ver' _ _ _ eo hvv' b hb)
    · cases hd
  | _ => simp [decSl] at hd
theorem dec_sound (R : Rep w0 A M0 w h σ) (hs : Sub hm h) {Mt : Nat → Prop} (hsub : ∀ b, Mt b → mutb M0 h σ b) : (s : Sh) → {vs : List V} → {cs : List Value} → RVs w (mutb M0 h σ) h σ vs cs →
    (∀ v ∈ vs, RefOk hm σ Mt v) → {x : s.den} → {r : List V} → dec hm s vs = some (x, r) →
    ∃ c d, cs = c ++ d ∧ RC w Mt s x c ∧ RVs w (mutb M0 h σ) h σ r d ∧ (∀ v ∈ r, v ∈ vs)
  | .int k, vs, cs, hv, hr, x, r, hd => by
    simp only [dec] at hd
    split at hd
    · rename_i k' n r'
      split at hd
      · rename_i ek
        simp only [Option.some.injEq, Prod.mk.injEq] at hd
        obtain ⟨rfl, rfl⟩ := hd
        simp only [RVs] at hv
        obtain ⟨y, ys, rfl, h1, h2⟩ := hv
        simp only [RV] at h1
        subst h1
        exact ⟨[_], ys, rfl, by rw [ek]; rfl, h2, fun v hv => List.mem_cons_of_mem _ hv⟩
      · cases hd
    · cases hd
  | .bool, vs, cs, hv, hr, x, r, hd => by
    simp only [dec] at hd
    split at hd
    · rename_i b r'
      simp only [Option.some.injEq, Prod.mk.injEq] at hd
      obtain ⟨rfl, rfl⟩ := hd
      simp only [RVs] at hv
      obtain ⟨y, ys, rfl, h1, h2⟩ := hv
      simp only [RV] at h1
      subst h1
      exact ⟨[_], ys, rfl, rfl, h2, fun v hv => List.mem_cons_of_mem _ hv⟩
    · cases hd
  | .unit, vs, cs, hv, hr, x, r, hd => by
    simp only [dec, Option.some.injEq, Prod.mk.injEq] at hd
    obtain ⟨-, rfl⟩ := hd
    exact ⟨[], cs, rfl, rfl, hv, fun v hv => hv⟩
  | .pair a b, vs, cs, hv, hr, x, r, hd => by
    simp only [dec] at hd
    split at hd
    · cases hd
    · rename_i xa r1 h1
      split at hd
      · cases hd
      · rename_i xb r2 h2
        simp only [Option.some.injEq, Prod.mk.injEq] at hd
        obtain ⟨rfl, rfl⟩ := hd
        obtain ⟨c, d, rfl, hc, hd', hm1⟩ := dec_sound R hs hsub a hv hr h1
        obtain ⟨c', d', rfl, hc', hd'', hm2⟩ := dec_sound R hs hsub b hd' (fun v hv => hr v (hm1 v hv)) h2
        exact ⟨c ++ c', d', by simp, ⟨c, c', rfl, hc, hc'⟩, hd'', fun v hv => hm1 v (hm2 v hv)⟩
  | .sl s, vs, cs, hv, hr, x, r, hd => by
    simp only [dec] at hd
    split at hd
    · rename_i v r'
      split at hd
      · rename_i xs hx
        simp only [Option.some.injEq, Prod.mk.injEq] at hd
        obtain ⟨rfl, rfl⟩ := hd
        simp only [RVs] at hv
        obtain ⟨y, ys, rfl, h1, h2⟩ := hv
        exact ⟨[y], ys, rfl, decSl_sound R hs hsub h1 (hr _ (List.mem_cons_self ..)) hx, h2, fun v hv => List.mem_cons_of_mem _ hv⟩
      · cases hd
    · cases hd
theorem decAll_sound (R : Rep w0 A M0 w h σ) (hs : Sub hm h) {Mt : Nat → Prop} (hsub : ∀ b, Mt b → mutb M0 h σ b) {s : Sh} {vs : List V} {cs : List Value} (hv : RVs w (mutb M0 h σ) h σ vs cs)
    (hr : ∀ v ∈ vs, RefOk hm σ Mt v) {x : s.den} (hd : decAll hm s vs = some x) : RC w Mt s x cs := by
  unfold decAll at hd
  split at hd
  · rename_i y e
    simp only [Option.some.injEq] at hd
    subst hd
    obtain ⟨c, d, rfl, h1, h2, _⟩ := dec_sound R hs hsub s hv hr e
    simp only [RVs] at h2
    subst h2
    simpa using h1
  · cases hd
theorem decElems_sound (R : Rep w0 A M0 w h σ) (hs : Sub hm h) {Mt : Nat → Prop} (hsub : ∀ b, Mt b → mutb M0 h σ b) {s : Sh} : (n : Nat) → {vs : List V} → {cs : List Value} → RVs w (mutb M0 h σ) h σ vs cs →
    (∀ v ∈ vs, RefOk hm σ Mt v) → {xs : List s.den} → decElems hm s n vs = some xs → RL w Mt s xs cs ∧ xs.length = n
  | 0, vs, cs, hv, hr, xs, hd => by
    cases vs with
    | nil => simp only [decElems, Option.some.injEq] at hd; subst hd; simp only [RVs] at hv; exact ⟨hv, rfl⟩
    | cons v vs => simp [decElems] at hd
  | n + 1, vs, cs, hv, hr, xs, hd => by
    simp only [decElems] at hd
    split at hd
    · cases hd
    · rename_i y r h1
      split at hd
      · cases hd
      · rename_i ys h2
        simp only [Option.some.injEq] at hd
        subst hd
        obtain ⟨c, d, rfl, hc, hd', hm1⟩ := dec_sound R hs hsub s hv hr h1
        obtain ⟨h3, h4⟩ := decElems_sound R hs hsub n hd' (fun v hv => hr v (hm1 v hv)) h2
        exact ⟨⟨c, d, rfl, hc, h3⟩, by simp [h4]⟩
end
mutual
/-- A datum's cells stand for it. -/
theorem encL_sound {w : World} {M : Nat → Prop} {h : List O} {σ : Nat → Loc} : (s : Sh) → {x : s.den} → {cs : List Value} → RC w M s x cs → RVs w M h σ (encL s x) cs
  | .int _, _, _, hr => by simp only [RC] at hr; subst hr; exact ⟨_, _, rfl, rfl, rfl⟩
  | .bool, _, _, hr => by simp only [RC] at hr; subst hr; exact ⟨_, _, rfl, rfl, rfl⟩
  | .unit, _, _, hr => by simp only [RC] at hr; subst hr; rfl
  | .pair a b, _, _, hr => by
    simp only [RC] at hr
    obtain ⟨c, d, rfl, h1, h2⟩ := hr
    exact (encL_sound a h1).append (encL_sound b h2)
  | .sl s, _, cs, hr => by
    have hr' := hr
    simp only [RC] at hr
    obtain ⟨a, cap, rfl, _⟩ := hr
    exact ⟨_, _, rfl, hr', rfl⟩
end
theorem encL_length : (s : Sh) → (x : s.den) → (encL s x).length = s.n
  | .int _, _ => rfl
  | .bool, _ => rfl
  | .unit, _ => rfl
  | .pair a b, x => by simp [encL, Sh.n, encL_length a, encL_length b]
  | .sl _, _ => rfl
end Go.Abs
