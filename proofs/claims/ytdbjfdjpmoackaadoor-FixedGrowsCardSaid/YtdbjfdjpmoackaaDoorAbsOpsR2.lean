/- Operations that leave the objects as they are, second part. -/
import Derived.Test.YtdbjfdjpmoackaaDoorAbsOpsR
namespace Go.Abs
open Go.RowKit

theorem nth_get {α : Type} (z : α) (xs : List α) (i : Nat) (h : i < xs.length) : xs[i]? = some (nth z xs i) := by simp [nth, List.getD, h]
theorem cond_some {α : Type} {b : Bool} {x : Option α} {y : α} (h : (bif b then x else none) = some y) : b = true ∧ x = some y := by
  cases b with
  | true => exact ⟨rfl, h⟩
  | false => cases h
section
variable {P : Program} {C : Ctx} {r : Option Nat} {n : Nat} {w0 : World} {A M0 : Nat → Prop} {w : World} {h hm : List O} {σ : Nat → Loc} {t : Nat → V} {a : Act} {o : Oper} {ρ : Type}
theorem rv_one {M : Nat → Prop} {v : V} {x : Value} (hv : RV w M h σ v x) (hs : v.okStore = true) : RVs w M h σ v.cells x.cells.toList ∧ ∀ c ∈ x.cells.toList, c.oneCell' = true := by
  have single : ∀ {u : V} {y : Value}, RV w M h σ u y → u.cells = [u] → y.oneCell' = true → RVs w M h σ u.cells y.cells.toList ∧ ∀ c ∈ y.cells.toList, c.oneCell' = true := fun {u y} hu hc hy => by
    have : y.cells = #[y] := by cases y <;> first | rfl | (simp [Value.oneCell'] at hy)
    rw [hc, this]
    exact ⟨⟨y, [], rfl, hu, rfl⟩, fun c hc => by simp at hc; subst hc; exact hy⟩
  cases v with
  | bad => cases hs
  | undef => cases hs
  | tup vs => cases hs
  | agg vs =>
    simp only [RV] at hv
    obtain ⟨cs, rfl, h1, h2⟩ := hv
    exact ⟨h2, h1⟩
  | int k m => have hv' := hv; simp only [RV] at hv; subst hv; exact single hv' rfl rfl
  | bool b => have hv' := hv; simp only [RV] at hv; subst hv; exact single hv' rfl rfl
  | nil => have hv' := hv; simp only [RV] at hv; subst hv; exact single hv' rfl rfl
  | sl s xs => have hv' := hv; simp only [RV] at hv; exact single hv' rfl (RC.one hv x (by simp))
  | slc o ver => have hv' := hv; simp only [RV] at hv; obtain ⟨_, _, _, _, _, _, _, h1, _⟩ := hv; exact single hv' rfl h1
  | ptr o off => have hv' := hv; simp only [RV] at hv; obtain ⟨_, _, _, _, rfl⟩ := hv; exact single hv' rfl rfl
  | rptr o ver i off => have hv' := hv; simp only [RV] at hv; obtain ⟨_, _, _, _, _, _, _, h1, _⟩ := hv; exact single hv' rfl h1
  | fptr s y => have hv' := hv; simp only [RV] at hv; obtain ⟨_, _, _, rfl, _⟩ := hv; exact single hv' rfl rfl
  | clo f cs => have hv' := hv; simp only [RV] at hv; obtain ⟨_, rfl, _⟩ := hv; exact single hv' rfl rfl
theorem fieldPlaces_sound (hT : TOk P C.T) {ty : TypeId} {te : TE} {fs : List (Nat × TypeId)} (ht : tlook C.T ty = some te) (hd : te.d = .struct fs) :
    ∃ gs : Array Field, P.underlying ty = some (.struct gs) ∧ ∀ (f off size : Nat), fieldPlaces C.T fs f = some (off, size) → ∃ g : Field, gs[f]? = some g ∧ g.offset = off ∧ ∀ w', (sizeOf g.type).run P w' = .ok size w' := by
  obtain ⟨gs, h1, h2⟩ := field_sound hT ht hd
  refine ⟨gs, h1, fun f off size hf => ?_⟩
  unfold fieldPlaces at hf
  split at hf
  · cases hf
  · rename_i off' ft hfs
    split at hf
    · cases hf
    · rename_i fe hfe
      simp only [Option.some.injEq, Prod.mk.injEq] at hf
      obtain ⟨rfl, rfl⟩ := hf
      obtain ⟨g, h3, h4, h5⟩ := h2 f off' ft hfs
      obtain ⟨i, z, hi⟩ := hT.get hfe
      exact ⟨g, h3, h4, fun w' => by rw [h5]; exact hi.sizeOf w'⟩
theorem rptr_sound (hs : Sub hm h) {o' ver i q : Nat} {p : Value} (hp : RV w (mutb M0 h σ) h σ (.rptr o' ver i q) p) (hok : rptrOk hm o' ver = true) :
    ∃ b s, (σ o').a = some b ∧ p = .pointer (some ⟨b, i * Sh.n s + q, none⟩) ∧ ∀ off, RV w (mutb M0 h σ) h σ (.rptr o' ver i (q + off)) (.pointer (some ⟨b, i * Sh.n s + q + off, none⟩)) := by
  unfold rptrOk at hok
  split at hok
  · rename_i fz ver' e s xs eo
    simp only [RV] at hp
    obtain ⟨fz1, ver1, e1, s1, xs1, eo1, hl, h1, hx⟩ := hp
    have eh := hs.get eo (by simp)
    rw [eh] at eo1
    cases eo1
    obtain ⟨b, ha, hi, rfl⟩ := hx (Nat.eq_of_beq_eq_true hok)
    exact ⟨b, s, ha, rfl, fun off => by simp only [RV]; exact ⟨fz, ver', e, s, xs, eh, hl, rfl, fun _ => ⟨b, ha, hi, by rw [Nat.add_assoc]⟩⟩⟩
  · cases hok
theorem fieldAddrK_sound (hT : TOk P C.T) (hs : Sub hm h) {ty : TypeId} {u : V} {p : Value} {f : Nat} (hp : RV w (mutb M0 h σ) h σ u p) {K : V → Option ρ} {res : ρ} (hb : fieldAddrK C hm ty u f K = some res) :
    ∃ v val, K v = some res ∧ (Instr.fieldAt ty p f).run P w = .ok val w ∧ RV w (mutb M0 h σ) h σ v val := by
  unfold fieldAddrK at hb
  split at hb
  · cases hb
  · rename_i te hte
    split at hb
    · rename_i fs hd
      obtain ⟨gs, hu, hf⟩ := fieldPlaces_sound hT hte hd
      split at hb
      · cases hb
      · rename_i off size hfp
        obtain ⟨g, hg, hoff, hsize⟩ := hf f off size hfp
        obtain ⟨hle, hb⟩ := cond_some hb
        have hle := Nat.le_of_ble_eq_true hle
        have run : ∀ (b q : Nat), (Instr.fieldAt ty (.pointer (some ⟨b, q, none⟩)) f).run P w = .ok (.pointer (some ⟨b, q + off, none⟩)) w := fun b q => by
          have h0 : ¬ size = 0 := by omega
          simp [Instr.fieldAt, run_underlying hu, hg, Instr.sureAddr, fieldPlace, hsize, h0, hoff, addr_add]
        clear hd hfp hf
        cases u with
        | ptr o' q =>
          simp only at hb
          simp only [RV] at hp
          obtain ⟨vs, b, e, ha, rfl⟩ := hp
          exact ⟨_, _, hb, run b q, by simp only [RV]; exact ⟨vs, b, e, ha, rfl⟩⟩
        | rptr o' ver i q =>
          simp only at hb
          obtain ⟨hok, hb⟩ := cond_some hb
          obtain ⟨b, s, ha, rfl, hr⟩ := rptr_sound hs hp hok
          exact ⟨_, _, hb, run b _, hr off⟩
        | fptr s x =>
          simp only at hb
          split at hb
          · rename_i y hy
            simp only [RV] at hp
            obtain ⟨b, q, cs, rfl, hbl, hm, hc, hr⟩ := hp
            obtain ⟨ds, h1, h2⟩ := subAt_sound s hr hy
            exact ⟨_, _, hb, run b q, by simp only [RV]; exact ⟨b, q + off, ds, rfl, hbl, hm, fun j v hj => by have := hc _ v (h2 j v hj); rwa [← Nat.add_assoc] at this, h1⟩⟩
          · cases hb
        | _ => simp at hb
    · cases hb
theorem fieldK_sound (hT : TOk P C.T) {ty : TypeId} {u : V} {p : Value} {f : Nat} (hp : RV w (mutb M0 h σ) h σ u p) {K : V → Option ρ} {res : ρ} (hb : fieldK C ty u f K = some res) :
    ∃ v val, K v = some res ∧ (Instr.field ty p f).run P w = .ok val w ∧ RV w (mutb M0 h σ) h σ v val := by
  unfold fieldK at hb
  split at hb
  · cases hb
  · rename_i te hte
    split at hb
    · rename_i fs hd
      obtain ⟨gs, hu, hf⟩ := field_sound hT hte hd
      split at hb
      · cases hb
      · rename_i off ft hfs
        obtain ⟨g, hg, hoff, hty⟩ := hf f off ft hfs
        split at hb
        · cases hb
        · rename_i fe hfe
          obtain ⟨i, z, hi⟩ := hT.get hfe
          clear hd hf hfs
          cases u with
          | agg vs =>
            simp only at hb
            obtain ⟨hok, hb⟩ := cond_some hb
            simp only [RV] at hp
            obtain ⟨cs, rfl, h1, hr⟩ := hp
            refine ⟨_, _, hb, ?_, partV_sound hr h1 hok⟩
            rw [hr.length] at hok
            unfold okPart at hok
            simp only [Bool.and_eq_true, Bool.or_eq_true] at hok
            obtain ⟨hle, h2⟩ := hok
            have hle := Nat.le_of_ble_eq_true hle
            simp only [Instr.field, Sem.run_bind, run_underlying hu, Result.andThen_ok, hg, asAgg, Sem.run_pure, part, hty, hi.isAgg, hoff]
            cases ha : fe.isAgg with
            | true =>
              simp only [if_true, Sem.run_bind, hi.sizeOf, Result.andThen_ok, Sem.run_pure, cond_true]
              congr 2
              apply Array.ext'
              simp [Array.toList_extract, List.extract_eq_take_drop]
            | false =>
              rw [ha] at h2
              have h2 : fe.size = 1 := by rcases h2 with h2 | h2; cases h2; exact Nat.eq_of_beq_eq_true h2
              have hlt : off < cs.size := by simp at hle; omega
              simp [hlt, List.getD]
          | _ => simp at hb
    · cases hb
theorem lenOf_sound (_R : Rep w0 A M0 w h σ) (hs : Sub hm h) {u : V} {p : Value} {m : Nat} (hp : RV w (mutb M0 h σ) h σ u p) (hb : lenOf hm u = some m) : ∃ a c, p = .slice a m c := by
  cases u with
  | nil => simp only [lenOf, Option.some.injEq] at hb; subst hb; simp only [RV] at hp; exact ⟨_, _, hp⟩
  | sl s xs =>
    simp only [lenOf, Option.some.injEq] at hb; subst hb
    simp only [RV, RC] at hp
    obtain ⟨a, c, hv, _⟩ := hp
    simp at hv
    exact ⟨a, c, hv⟩
  | slc o' ver =>
    simp only [lenOf] at hb
    split at hb
    · rename_i fz ver' e s xs eo
      obtain ⟨hv, hb⟩ := cond_some hb
      simp only [Option.some.injEq] at hb
      subst hb
      simp only [RV] at hp
      obtain ⟨fz1, ver1, e1, s1, xs1, eo1, hl, h1, hx⟩ := hp
      have eh := hs.get eo (by simp)
      rw [eh] at eo1
      cases eo1
      exact ⟨_, _, hx (Nat.eq_of_beq_eq_true hv)⟩
    · cases hb
  | _ => simp [lenOf] at hb
theorem lenK_sound (hT : TOk P C.T) (R : Rep w0 A M0 w h σ) (hs : Sub hm h) {ty : TypeId} {u : V} {p : Value} {tys : Array TypeId} {rt : TypeId} (ht : tys[0]? = some ty) (hp : RV w (mutb M0 h σ) h σ u p) {K : V → Option ρ} {res : ρ} {rest : List Value} (hb : lenK C hm ty u K = some res) :
    ∃ v val, K v = some res ∧ (Builtin.len_ tys rt (p :: rest).toArray).run P w = .ok val w ∧ RV w (mutb M0 h σ) h σ v val := by
  unfold lenK at hb
  split at hb
  · cases hb
  · rename_i te hte
    obtain ⟨i, z, hi⟩ := hT.get hte
    obtain ⟨un, hu, hd⟩ := hi.und
    split at hb
    · rename_i e he
      rw [he] at hd
      simp only at hd
      subst hd
      split at hb
      · rename_i m hm'
        obtain ⟨a, c, rfl⟩ := lenOf_sound R hs hp hm'
        exact ⟨_, _, hb, by simp [Builtin.len_, ht, run_underlying hu, goInt], rv_int⟩
      · cases hb
    · rename_i m e he
      rw [he] at hd
      simp only at hd
      subst hd
      exact ⟨_, _, hb, by simp [Builtin.len_, ht, run_underlying hu, goInt], rv_int⟩
    · cases hb
theorem indexAddrSK_sound (hT : TOk P C.T) (R : Rep w0 A M0 w h σ) (hs : Sub hm h) {ty : TypeId} {u v : V} {p q : Value} (hp : RV w (mutb M0 h σ) h σ u p) (hq : RV w (mutb M0 h σ) h σ v q) {K : V → Option ρ} {res : ρ}
    (hb : indexAddrSK C hm ty u v K = some res) :
    ∃ v val, K v = some res ∧ (Instr.indexAt ty p q).run P w = .ok val w ∧ RV w (mutb M0 h σ) h σ v val := by
  unfold indexAddrSK at hb
  split at hb
  · cases hb
  · rename_i e ee he
    obtain ⟨hu, i, z, hi⟩ := sliceElem_sound hT he
    cases v with
    | int k j =>
      simp only at hb
      simp only [RV] at hq
      subst hq
      have run : ∀ (b o' len cap : Nat), 0 ≤ j → j < len → (Instr.indexAt ty (.slice (some ⟨b, o', none⟩) len cap) (.int k j)).run P w = .ok (.pointer (some ⟨b, o' + j.toNat * ee.size, none⟩)) w := fun b o' len cap h1 h2 => by
        have h12 : 0 ≤ j ∧ j < len := ⟨h1, h2⟩
        simp [Instr.indexAt, asIntOf, run_underlying hu, h12, hi.sizeOf, addr_add]
      cases u with
      | sl s xs =>
        simp only at hb
        obtain ⟨hn, hb⟩ := cond_some hb
        obtain ⟨hj, hb⟩ := cond_some hb
        simp only [Bool.and_eq_true, decide_eq_true_eq] at hn hj
        have hn1 := Nat.eq_of_beq_eq_true hn.1
        simp only [RV, RC] at hp
        obtain ⟨aa, c, hv, _, _, hx⟩ := hp
        simp at hv
        subst hv
        have hlt : j.toNat < xs.length := by omega
        obtain ⟨b, o', rfl, hbl, hm', hr⟩ := hx (by intro hh; subst hh; simp at hlt)
        obtain ⟨cs, hc, hR⟩ := hr _ _ (nth_get s.zero xs _ hlt)
        rw [hn1] at hc
        exact ⟨_, _, hb, run b o' _ c hj.1 hj.2, by simp only [RV]; exact ⟨b, _, cs, rfl, hbl, hm', hc, hR⟩⟩
      | slc o' ver =>
        simp only at hb
        split at hb
        · rename_i fz ver' e' s xs eo
          obtain ⟨hn, hb⟩ := cond_some hb
          obtain ⟨hj, hb⟩ := cond_some hb
          simp only [Bool.and_eq_true, decide_eq_true_eq] at hn hj
          have hn1 := Nat.eq_of_beq_eq_true hn.1.1
          have hvv := Nat.eq_of_beq_eq_true hn.2
          simp only [RV] at hp
          obtain ⟨fz1, ver1, e1, s1, xs1, eo1, hl, h1, hx⟩ := hp
          have eh := hs.get eo (by simp)
          rw [eh] at eo1
          cases eo1
          rw [hx hvv]
          have hlt : j.toNat < xs.length := by omega
          have ro := R.obj o'
          rw [eh] at ro
          cases ha : (σ o').a with
          | none =>
            exfalso
            cases fz with
            | true =>
              obtain ⟨_, r1, _⟩ := ro
              simp only [RC] at r1
              obtain ⟨aa, c, hv, _, _, hx'⟩ := r1
              obtain ⟨b, q, rfl, _⟩ := hx' (by intro hh; subst hh; simp at hlt)
              simp [rowV, Loc.addr, ha] at hv
            | false =>
              obtain ⟨_, cs, r1, _⟩ := ro
              rcases r1.2 with ⟨_, h0⟩ | ⟨g, cap, cur, hv, _⟩
              · omega
              · simp [rowV, Loc.addr, ha] at hv
          | some b =>
            have e1 : (σ o').addr = some ⟨b, 0, none⟩ := by simp [Loc.addr, ha]
            rw [e1]
            refine ⟨_, _, hb, run b 0 _ _ hj.1 hj.2, ?_⟩
            simp only [RV]
            exact ⟨fz, ver', e', s, xs, eh, hl, rfl, fun _ => ⟨b, ha, hlt, by rw [hn1]; simp⟩⟩
        · cases hb
      | _ => simp at hb
    | _ => simp at hb
theorem arrayElem_sound (hT : TOk P C.T) {ty e : TypeId} {n : Nat} {ee : TE} (hs : arrayElem C.T ty = some (n, e, ee)) : P.underlying ty = some (.array n e) ∧ ∃ i z, TeIs P e ee i z := by
  unfold arrayElem at hs
  split at hs
  · cases hs
  · rename_i te hte
    split at hs
    · rename_i n' e' hd
      split at hs
      · rename_i ee' hee
        simp only [Option.some.injEq, Prod.mk.injEq] at hs
        obtain ⟨rfl, rfl, rfl⟩ := hs
        obtain ⟨i, z, hi⟩ := hT.get hte
        obtain ⟨u, h1, h2⟩ := hi.und
        rw [hd] at h2; simp only at h2; subst h2
        exact ⟨h1, hT.get hee⟩
      · cases hs
    · cases hs
theorem indexAddrK_sound (hT : TOk P C.T) (R : Rep w0 A M0 w h σ) (hs : Sub hm h) {ty : TypeId} {u v : V} {p q : Value} (hp : RV w (mutb M0 h σ) h σ u p) (hq : RV w (mutb M0 h σ) h σ v q) {K : V → Option ρ} {res : ρ}
    (hb : indexAddrK C hm ty u v K = some res) :
    ∃ v val, K v = some res ∧ (Instr.indexAt ty p q).run P w = .ok val w ∧ RV w (mutb M0 h σ) h σ v val := by
  unfold indexAddrK at hb
  split at hb
  · rename_i n e ee he
    obtain ⟨hu, i, z, hi⟩ := arrayElem_sound hT he
    cases v with
    | int k j =>
      simp only at hb
      simp only [RV] at hq
      subst hq
      cases u with
      | ptr o' a =>
        simp only at hb
        obtain ⟨hn, hb⟩ := cond_some hb
        simp only [Bool.and_eq_true, decide_eq_true_eq] at hn
        simp only [RV] at hp
        obtain ⟨vs, b, h1, h2, rfl⟩ := hp
        have h12 : 0 ≤ j ∧ j < (n : Int) := hn.2
        refine ⟨_, _, hb, by simp [Instr.indexAt, asIntOf, run_underlying hu, Instr.sureAddr, h12, hi.sizeOf, addr_add]; rfl, ?_⟩
        simp only [RV]
        exact ⟨vs, b, h1, h2, rfl⟩
      | _ => cases hb
    | _ => cases hb
  · exact indexAddrSK_sound hT R hs hp hq hb
end
end Go.Abs
