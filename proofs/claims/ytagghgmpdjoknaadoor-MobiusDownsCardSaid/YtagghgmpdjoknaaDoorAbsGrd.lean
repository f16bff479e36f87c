/- Squares of numbers: a value with a fresh row behind a number, and a pointer to a cell handed back. -/
import Derived.Test.YtagghgmpdjoknaaDoorAbsOpn
namespace Go.Abs
open Go.RowKit
/-- **A function that makes a row and hands it back behind a number.** -/
def SpecS (P : Program) (gs : List (Nat × List Value)) (f : Nat) (ks : List Kd) (e : TypeId) (s : Sh) (D : Dens ks → Option (Int × List s.den)) : Prop :=
  ∀ (M : Nat → Prop) (w : World) (x : Dens ks) (y : Int × List s.den) (vs : List Value), (∀ b, M b → b < w.heap.size) → GW gs w → RVs w M [] σ0 (kvals ks x) vs → D x = some y →
    Calls P f vs.toArray w fun e' w' => ∃ l cs, e' = .returned (.agg #[.int .i64 y.1, rowV l y.2.length]) ∧ Below w.heap.size w w' ∧ w'.ownsRow 0 e s.n (rowV l y.2.length) y.2.length cs ∧ RL w' (fun b => M b ∨ l.a = some b) s y.2 cs ∧ (∀ b, l.a = some b → w.heap.size ≤ b)
def finS (e : TypeId) (s : Sh) (v : V) (h : List O) : Option (Int × List s.den) :=
  match v with
  | .agg [.int .i64 n, u] => (finF e s u h).map fun y => (n, y)
  | _ => none
theorem cond_pkg {c : Bool} {x : Pkg} {p : Pkg} (h : (bif c then some x else none) = some p) : c = true ∧ some x = some p := by
  cases c with
  | true => exact ⟨rfl, h⟩
  | false => cases h
section
variable {P : Program} {w w' : World} {M : Nat → Prop} {h : List O} {σ : Nat → Loc}
theorem finF_sound (R : Rep w (fun _ => False) M w' h σ) {e : TypeId} {s : Sh} {v : V} {x : Value} (hr : RV w' (mutb M h σ) h σ v x) {y : List s.den} (hfin : finF e s v h = some y) :
    ∃ l cs, x = rowV l y.length ∧ w'.ownsRow 0 e s.n (rowV l y.length) y.length cs ∧ RL w' (fun b => M b ∨ l.a = some b) s y cs ∧ (∀ b, l.a = some b → w.heap.size ≤ b) := by
  unfold finF at hfin
  split at hfin
  · cases hfin
    simp only [RV] at hr
    subst hr
    exact ⟨⟨none, 0⟩, [], rfl, ⟨by simp, .inl ⟨rfl, rfl⟩⟩, rfl, fun b hb => by cases hb⟩
  · rename_i o ver
    split at hfin
    · rename_i fz ver' e'' s' xs eo
      obtain ⟨hc, hcast⟩ := cond_some hfin
      rw [Bool.and_eq_true, Bool.and_eq_true] at hc
      obtain ⟨⟨h1, h2⟩, h3⟩ := hc
      have h1 := Nat.eq_of_beq_eq_true h1
      have h3 := Nat.eq_of_beq_eq_true h3
      have h2 : fz = false := by simpa using h2
      subst h1; subst h2; subst h3
      obtain ⟨es, rfl⟩ := castSh_some hcast
      cases es
      simp only [RV] at hr
      obtain ⟨fz', ver'', e3, s3, xs3, eo', _, _, hx⟩ := hr
      rw [eo] at eo'
      cases eo'
      have hx := hx rfl
      subst hx
      have ro := R.obj o
      rw [eo] at ro
      obtain ⟨hs1, cs, hown, hrl⟩ := ro
      have hlive : live (getO h o) := by rw [eo]; rfl
      refine ⟨σ o, cs, rfl, hown, RL.keeps (keepsId fun b hb => ?_) hrl, fun b ha => ?_⟩
      · rcases hb with hb | hb
        · exact .inl hb
        · exact .inr ⟨o, hlive, hb⟩
      · rcases R.inA b ⟨o, hlive, ha⟩ with h | h
        · exact h.elim
        · exact h
    · cases hfin
  · cases hfin
/-- **Out of a body's evaluation: a row behind a number.** -/
theorem specS_of {gs : List (Nat × List Value)} {f : Nat} {fn : Func} {c : Code} {ks : List Kd} {e : TypeId} {s : Sh} {D : Dens ks → Option (Int × List s.den)} (hf : P.funcs[f]? = some fn) (hb : fn.body = some c) (hm : P.follows .mixedOrders = true) (hlen : ks.length ≤ fn.ntmps)
    (hex : ∀ x y, D x = some y → ∃ C ann, CtxOk P gs fn C ∧ exec C c ann (argS 0 (kvals ks x)) [] (finK C fn.results.toList (finS e s)) = some y) : SpecS P gs f ks e s D := by
  intro M w x y vs hM hgw hv hD
  obtain ⟨C, ann, hC, hx⟩ := hex x y hD
  refine (call_sound hf hb hC.types hC.calls hC.its (hC.gs ▸ hgw.gl) hm hC.n hx (by rw [kvals_length]; exact hlen) (rep_nil w hM) (RVs.less (fun b hb => mutb_nil hb) hv)).mono ?_
  rintro e' w' ⟨v, u, h', σ', rfl, hfin, R, hr⟩
  unfold finS at hfin
  split at hfin
  · rename_i n u
    obtain ⟨y0, h0, rfl⟩ := Option.map_eq_some_iff.1 hfin
    simp only [RV, RVs] at hr
    obtain ⟨cs, rfl, _, x1, r1, e1, rfl, x2, r2, rfl, h2, rfl⟩ := hr
    obtain ⟨l, cs', rfl, h3, h4, h5⟩ := finF_sound R h2 h0
    refine ⟨l, cs', ?_, R.fr.below, h3, h4, h5⟩
    have : cs = #[.int .i64 n, rowV l y0.length] := Array.ext' e1
    rw [this]
  · cases hfin
theorem mkSpS {gs : List (Nat × List Value)} {f : Nat} {fn : Func} {c : Code} {ks : List Kd} {e : TypeId} {s : Sh} {D : Dens ks → Option (Int × List s.den)} {C : Ctx} {a : Ann} (hf : P.funcs[f]? = some fn) (hb : fn.body = some c) (hm : P.follows .mixedOrders = true) (hlen : Nat.ble ks.length fn.ntmps = true)
    (hC : CtxOk P gs fn C) (hE : ∀ x, exec C c a (argS 0 (kvals ks x)) [] (finK C fn.results.toList (finS e s)) = D x) : SpecS P gs f ks e s D :=
  specS_of hf hb hm (Nat.le_of_ble_eq_true hlen) fun x _ h => ⟨C, a, hC, (hE x).trans h⟩
def mkS (f : Nat) (ks : List Kd) (e : TypeId) (s : Sh) (D : Dens ks → Option (Int × List s.den)) : Ent :=
  { f := f, run := fun args h => match decL false h ks args with | none => none | some x => some { α := Int × List s.den, r := D x, v := fun y => .agg [.int .i64 y.1, .slc h.length 0], h := some fun y h => h ++ [.row false 0 e s y.2] } }
theorem entS {gs : List (Nat × List Value)} {f : Nat} {ks : List Kd} {e : TypeId} {s : Sh} {D : Dens ks → Option (Int × List s.den)} (hb : HasBody P f) (hs : s.flat = true) (h1 : 1 ≤ s.n) (hS : SpecS P gs f ks e s D) : EntOk P gs (mkS f ks e s D) where
  fn := fun _ _ _ _ => hb
  rd := fun args h hm p y hsub hp hh => by
    simp only [mkS] at hp
    split at hp
    · cases hp
    · cases hp; cases hh
  wr := fun args h p u y hp hu hr w0 A M0 w σ hgl R vs hv => by
    simp only [mkS] at hp
    split at hp
    · cases hp
    · rename_i x hx
      cases hp
      cases hu
      have hv' := decL_sound (h' := []) (σ' := σ0) R (Sub.refl _) (Mt := fun _ => False) (fun b hb => hb.elim) (fun _ _ h => h) ks hv (fun _ _ _ _ _ _ _ _ _ _ _ _ _ _ _ h => h) hx
      refine (hS _ w x y vs (fun b hb => hb.elim) (hgl.now R) hv' hr).mono ?_
      rintro e' w' ⟨l, cs, rfl, g, hown, hrl, hl⟩
      obtain ⟨nx, hrv⟩ := row_made R h1 g hown (RL.flat hs hrl) hl
      refine ⟨_, _, rfl, nx, ?_⟩
      have hone : (rowV l y.2.length).oneCell' = true := rfl
      have key : RVs w' (mutb M0 (h ++ [.row false 0 e s y.2]) (updL σ h.length l)) (h ++ [.row false 0 e s y.2]) (updL σ h.length l) [.int .i64 y.1, .slc h.length 0] [.int .i64 y.1, rowV l y.2.length] := by
        simp only [RVs]
        exact ⟨_, _, rfl, by simp only [RV], _, _, rfl, hrv, rfl⟩
      simp only [RV]
      refine ⟨#[.int .i64 y.1, rowV l y.2.length], rfl, ?_, key⟩
      intro c hc
      simp only [List.mem_cons, List.not_mem_nil, or_false] at hc
      rcases hc with rfl | rfl
      · rfl
      · exact hone
/-- A cell's place. -/
def gridIx (n a b : Int) : Int := IntKind.i64.wrap (IntKind.i64.wrap (a * n) + b)
def okIf (c : Bool) : Option Unit := bif c then some () else none
theorem okIf_true : okIf true = some () := rfl
/-- **A pointer to a cell.** -/
def SpecAt (P : Program) (f : Nat) : Prop :=
  ∀ (w : World) (b0 o len cap : Nat) (n a b : Int), 0 ≤ gridIx n a b → gridIx n a b < len →
    Calls P f #[.agg #[.int .i64 n, .slice (some ⟨b0, o, none⟩) len cap], .int .i64 a, .int .i64 b] w fun e w' => e = .returned (.pointer (some ⟨b0, o + (gridIx n a b).toNat, none⟩)) ∧ Below w.heap.size w w'
def mkAt (f : Nat) : Ent :=
  { f := f, run := fun args h => match args with
    | [.agg [.int .i64 n, c], .int .i64 a, .int .i64 b] =>
      (match c with
      | .sl s xs => bif Nat.beq s.n 1 then some { α := Unit, r := okIf (decide (0 ≤ gridIx n a b) && decide (gridIx n a b < xs.length)), v := fun _ => .fptr s (nth s.zero xs (gridIx n a b).toNat), h := none } else none
      | .slc o ver => (match getO h o with
        | .row _ ver' _ s xs => bif Nat.beq s.n 1 && Nat.beq ver ver' then some { α := Unit, r := okIf (decide (0 ≤ gridIx n a b) && decide (gridIx n a b < xs.length)), v := fun _ => .rptr o ver (gridIx n a b).toNat 0, h := none } else none
        | _ => none)
      | _ => none)
    | _ => none }
theorem okIf_some {c : Bool} {y : Unit} (h : okIf c = some y) : c = true := by cases c with | true => rfl | false => cases h
theorem entAt {gs : List (Nat × List Value)} {f : Nat} (hb : HasBody P f) (hS : SpecAt P f) : EntOk P gs (mkAt f) where
  fn := fun _ _ _ _ => hb
  rd := fun args h hm p y hsub hp _ hr w0 A M0 w σ hgl R vs hv => by
    simp only [mkAt] at hp
    split at hp
    · rename_i n c a b
      simp only [RVs] at hv
      obtain ⟨x1, r1, rfl, h1, x2, r2, rfl, h2, x3, r3, rfl, h3, rfl⟩ := hv
      simp only [RV] at h2 h3
      subst h2; subst h3
      simp only [RV, RVs] at h1
      obtain ⟨cs, rfl, _, y1, q1, e1, rfl, vc, q2, rfl, hvc, rfl⟩ := h1
      have hcs : cs = #[.int .i64 n, vc] := Array.ext' e1
      subst hcs
      cases c with
      | sl s xs =>
        simp only at hp
        obtain ⟨hn, hp⟩ := cond_pkg hp
        cases hp
        have hr := okIf_some hr
        simp only [Bool.and_eq_true, decide_eq_true_eq] at hr
        have hn1 := Nat.eq_of_beq_eq_true hn
        simp only [RV, RC] at hvc
        obtain ⟨aa, c, hv, _, _, hx⟩ := hvc
        simp at hv
        subst hv
        have hlt : (gridIx n a b).toNat < xs.length := by omega
        obtain ⟨b0, o', rfl, hbl, hm', hr'⟩ := hx (by intro hh; subst hh; simp at hlt)
        obtain ⟨cs, hc, hR⟩ := hr' _ _ (nth_get s.zero xs _ hlt)
        rw [hn1, Nat.mul_one] at hc
        refine (hS w b0 o' xs.length c n a b hr.1 hr.2).mono ?_
        rintro e w' ⟨rfl, hB⟩
        refine ⟨_, rfl, hB, ?_⟩
        have hf : RV w (mutb M0 h σ) h σ (.fptr s (nth s.zero xs (gridIx n a b).toNat)) (.pointer (some ⟨b0, o' + (gridIx n a b).toNat, none⟩)) := by
          simp only [RV]
          exact ⟨b0, _, cs, rfl, hbl, hm', hc, hR⟩
        exact (Next.grow R hB).rv hf
      | slc o ver =>
        simp only at hp
        split at hp
        · rename_i fz ver' e' s xs eo
          obtain ⟨hn, hp⟩ := cond_pkg hp
          cases hp
          have hr := okIf_some hr
          simp only [Bool.and_eq_true, decide_eq_true_eq] at hn hr
          have hn1 := Nat.eq_of_beq_eq_true hn.1
          have hvv := Nat.eq_of_beq_eq_true hn.2
          subst hvv
          simp only [RV] at hvc
          obtain ⟨fz1, ver1, e1, s1, xs1, eo1, hl, h1, hx⟩ := hvc
          have eh := hsub.get eo (by simp)
          rw [eh] at eo1
          cases eo1
          have hx := hx rfl
          subst hx
          have hlt : (gridIx n a b).toNat < xs.length := by omega
          have ro := R.obj o
          rw [eh] at ro
          cases hb0 : (σ o).a with
          | none =>
            exfalso
            cases fz with
            | true =>
              obtain ⟨_, r1, _⟩ := ro
              simp only [RC] at r1
              obtain ⟨aa, c, hv, _, _, hx'⟩ := r1
              obtain ⟨b, q, rfl, _⟩ := hx' (by intro hh; subst hh; simp at hlt)
              simp [rowV, Loc.addr, hb0] at hv
            | false =>
              obtain ⟨_, cs, r1, _⟩ := ro
              rcases r1.2 with ⟨_, h0⟩ | ⟨g, cap, cur, hv, _⟩
              · omega
              · simp [rowV, Loc.addr, hb0] at hv
          | some b0 =>
            have haddr : (σ o).addr = some ⟨b0, 0, none⟩ := by simp [Loc.addr, hb0]
            rw [haddr]
            refine (hS w b0 0 xs.length (σ o).cap n a b hr.1 hr.2).mono ?_
            rintro e w' ⟨rfl, hB⟩
            refine ⟨_, rfl, hB, ?_⟩
            simp only [RV]
            exact ⟨fz, ver, e', s, xs, eh, Nat.le_refl _, rfl, fun _ => ⟨b0, hb0, hlt, by rw [hn1]; simp⟩⟩
        · cases hp
      | _ => cases hp
    · cases hp
  wr := fun args h p u y hp hu => by
    simp only [mkAt] at hp
    split at hp
    · split at hp
      · obtain ⟨_, hp⟩ := cond_pkg hp
        cases hp; cases hu
      · split at hp
        · obtain ⟨_, hp⟩ := cond_pkg hp
          cases hp; cases hu
        · cases hp
      · cases hp
    · cases hp
end
end Go.Abs
