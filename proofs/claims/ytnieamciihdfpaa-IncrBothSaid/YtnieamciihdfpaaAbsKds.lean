import Derived.Test.YtnieamciihdfpaaAbsNst
namespace Go.Abs
open Go.RowKit
open Go.ChangeMaps (setBlock)
section
variable {P : Program} {t : TypeId} {k v : Sh} {w : World} {M : Nat → Prop}
structure KE (w : World) (M : Nat → Prop) (k : Sh) {α : Type} (x : Int × (k.den × α)) (e : MapEntry) : Prop where
  born : (e.born : Int) = x.1
  key : RV w M [] σ0 (enc k x.2.1) e.key
theorem KE.kD {α : Type} {x : Int × (k.den × α)} {e : MapEntry} (h : KE w M k x e) : Dat w M k x.2.1 e.key := rv_dat h.key
theorem find_askingK {w' w1 : World} {M' : Nat → Prop} (hk : keyOk P t k = true) {x : k.den} {a : Value} (ha : Dat w1 M' k x a) : (xs : Ents k v) → (es : List MapEntry) → (i : Nat) → KKs w M k xs es →
    ((Instr.findAsking t a es i).run P w' = .ok none w' ∧ entOf k v x xs = none) ∨ ∃ j e y, (Instr.findAsking t a es i).run P w' = .ok (some (i + j, e.val)) w' ∧ es[j]? = some e ∧ KE w M k y e ∧ At1 k v x xs j y
  | [], es, i, h => by obtain rfl : es = [] := h; exact .inl ⟨by simp [Instr.findAsking], rfl⟩
  | y :: xs, es, i, h => by
    obtain ⟨e, r, rfl, g1, g2, h2⟩ := h
    have h1 : KE w M k y e := ⟨g1, g2⟩
    have he := key_equal (w := w') hk ha h1.kD
    cases q : eqD k x y.2.1 with
    | true =>
      rw [q] at he
      exact .inr ⟨0, e, y, by simp [Instr.findAsking, he], rfl, h1, ⟨rfl, q, fun i z hi _ => by omega⟩⟩
    | false =>
      rw [q] at he
      rcases find_askingK (w' := w') hk ha xs r (i + 1) h2 with ⟨r1, r2⟩ | ⟨j, e', y', r1, r2, r3, r4⟩
      · exact .inl ⟨by simp [Instr.findAsking, he, r1], by simp only [entOf, q, cond_false]; exact r2⟩
      · refine .inr ⟨j + 1, e', y', by simp [Instr.findAsking, he, r1, Nat.add_assoc, Nat.add_comm 1 j], by simpa using r2, r3, ⟨by simpa using r4.here, r4.eq, fun i' z hi hz => ?_⟩⟩
        cases i' with
        | zero => simp at hz; subst hz; exact q
        | succ i' => exact r4.ahead i' z (by omega) (by simpa using hz)
theorem find_nowK {w1 : World} {M' : Nat → Prop} {d : TypeDesc} (hsame : ∀ (y : k.den) (b : Value), Dat w M k y b → ∀ (x : k.den) (a : Value), Dat w1 M' k x a → Instr.sameNow d a b = some (eqD k x y)) {x : k.den} {a : Value} (ha : Dat w1 M' k x a) :
    (xs : Ents k v) → (es : List MapEntry) → (i : Nat) → KKs w M k xs es →
    (Instr.findNow d a es i = some none ∧ entOf k v x xs = none) ∨ ∃ j e y, Instr.findNow d a es i = some (some (i + j, e.val)) ∧ es[j]? = some e ∧ KE w M k y e ∧ At1 k v x xs j y
  | [], es, i, h => by obtain rfl : es = [] := h; exact .inl ⟨by simp [Instr.findNow], rfl⟩
  | y :: xs, es, i, h => by
    obtain ⟨e, r, rfl, g1, g2, h2⟩ := h
    have h1 : KE w M k y e := ⟨g1, g2⟩
    have he := hsame y.2.1 e.key h1.kD x a ha
    cases q : eqD k x y.2.1 with
    | true =>
      rw [q] at he
      exact .inr ⟨0, e, y, by simp [Instr.findNow, he], rfl, h1, ⟨rfl, q, fun i z hi _ => by omega⟩⟩
    | false =>
      rw [q] at he
      rcases find_nowK hsame ha xs r (i + 1) h2 with ⟨r1, r2⟩ | ⟨j, e', y', r1, r2, r3, r4⟩
      · exact .inl ⟨by simp [Instr.findNow, he, r1], by simp only [entOf, q, cond_false]; exact r2⟩
      · refine .inr ⟨j + 1, e', y', by simp [Instr.findNow, he, r1, Nat.add_assoc, Nat.add_comm 1 j], by simpa using r2, r3, ⟨by simpa using r4.here, r4.eq, fun i' z hi hz => ?_⟩⟩
        cases i' with
        | zero => simp at hz; subst hz; exact q
        | succ i' => exact r4.ahead i' z (by omega) (by simpa using hz)
theorem find_keyK {w' w1 : World} {M' : Nat → Prop} (hk : keyOk P t k = true) {x : k.den} {a : Value} (ha : Dat w1 M' k x a) {xs : Ents k v} {es : List MapEntry} (h : KKs w M k xs es) :
    ((Instr.findKey t a es).run P w' = .ok none w' ∧ entOf k v x xs = none) ∨ ∃ j e y, (Instr.findKey t a es).run P w' = .ok (some (j, e.val)) w' ∧ es[j]? = some e ∧ KE w M k y e ∧ At1 k v x xs j y := by
  rcases key_same (w := w) (M := M) (w1 := w1) (M' := M') hk with ⟨fs, hu⟩ | ⟨d, hd, hsame⟩
  · rw [run_findKey_eq w' (by rw [hu])]
    simpa using find_askingK (w' := w') hk ha xs es 0 h
  · rcases find_nowK hsame ha xs es 0 h with ⟨r1, r2⟩ | ⟨j, e, y, r1, r2, r3, r4⟩
    · exact .inl ⟨MapKept.run_findKey hd r1, r2⟩
    · refine .inr ⟨j, e, y, ?_, r2, r3, r4⟩
      have := MapKept.run_findKey (P := P) (w := w') hd r1
      simpa using this
theorem KKs.length {α : Type} : {xs : List (Int × (k.den × α))} → {es : List MapEntry} → KKs w M k xs es → xs.length = es.length
  | [], es, h => by obtain rfl : es = [] := h; rfl
  | _ :: _, _, h => by
    obtain ⟨e, r, rfl, _, _, h⟩ := h
    simp [KKs.length h]
theorem KKs.set {α : Type} : {xs : List (Int × (k.den × α))} → {es : List MapEntry} → KKs w M k xs es → {j : Nat} → {x : Int × (k.den × α)} → {e : MapEntry} → KE w M k x e → KKs w M k (xs.set j x) (es.set j e)
  | [], es, h, j, x, e, _ => by obtain rfl : es = [] := h; exact rfl
  | _ :: _, _, h, j, x, e, hx => by
    obtain ⟨e', r, rfl, h1, h2, h⟩ := h
    cases j with
    | zero => exact ⟨e, r, rfl, hx.born, hx.key, h⟩
    | succ j => exact ⟨e', _, rfl, h1, h2, KKs.set h hx⟩
theorem KKs.push {α : Type} : {xs : List (Int × (k.den × α))} → {es : List MapEntry} → KKs w M k xs es → {x : Int × (k.den × α)} → {e : MapEntry} → KE w M k x e → KKs w M k (xs ++ [x]) (es ++ [e])
  | [], es, h, x, e, hx => by obtain rfl : es = [] := h; exact ⟨e, [], rfl, hx.born, hx.key, rfl⟩
  | _ :: _, _, h, x, e, hx => by
    obtain ⟨e', r, rfl, h1, h2, h⟩ := h
    exact ⟨e', _, rfl, h1, h2, KKs.push h hx⟩
end
section
variable {w : World} {M : Nat → Prop} {t : Kt}
theorem KVs.length : {xs : List t.sh.den} → {vs : List Value} → {hl : Option Nat} → {bs : List Nat} → KVs w M t xs vs hl bs → xs.length = vs.length
  | [], _, _, _, h => by obtain ⟨rfl, _⟩ := h; rfl
  | _ :: _, _, _, _, h => by
    obtain ⟨v, r, b1, b2, rfl, rfl, _, h⟩ := h
    simp [KVs.length h]
theorem KVs.take : {xs : List t.sh.den} → {vs : List Value} → {bs : List Nat} → KVs w M t xs vs none bs → {j : Nat} → {x : t.sh.den} → {v : Value} → xs[j]? = some x → vs[j]? = some v →
    ∃ b2 r, KV w M t x v b2 ∧ KVs w M t xs vs (some j) r ∧ (b2 ++ r).Perm bs
  | [], _, _, _, j, x, v, hx, _ => by simp at hx
  | y :: xs, _, _, h, j, x, v, hx, hv => by
    obtain ⟨u, r, b1, b2, rfl, rfl, h1, h⟩ := h
    have h1 := h1.resolve_left (fun q => by cases q.1)
    cases j with
    | zero =>
      simp only [List.getElem?_cons_zero, Option.some.injEq] at hx hv
      subst hx; subst hv
      exact ⟨b1, b2, h1.2, ⟨_, r, [], b2, rfl, rfl, .inl ⟨rfl, rfl⟩, h⟩, .refl _⟩
    | succ j =>
      simp only [List.getElem?_cons_succ] at hx hv
      obtain ⟨c2, r2, g1, g2, g3⟩ := KVs.take h hx hv
      refine ⟨c2, b1 ++ r2, g1, ⟨u, r, b1, r2, rfl, rfl, .inr ⟨by simp, h1.2⟩, g2⟩, ?_⟩
      have p1 : (c2 ++ (b1 ++ r2)).Perm (b1 ++ (c2 ++ r2)) := by
        rw [← List.append_assoc, ← List.append_assoc]
        exact List.perm_append_comm.append_right r2
      exact p1.trans (g3.append_left b1)
theorem KVs.put : {xs : List t.sh.den} → {vs : List Value} → {j : Nat} → {bs : List Nat} → KVs w M t xs vs (some j) bs → {x : t.sh.den} → {v : Value} → {b2 : List Nat} → j < xs.length → KV w M t x v b2 →
    ∃ r, KVs w M t (xs.set j x) (vs.set j v) none r ∧ r.Perm (b2 ++ bs)
  | [], _, j, _, _, x, v, b2, hj, _ => by simp at hj
  | y :: xs, _, j, _, h, x, v, b2, hj, hk => by
    obtain ⟨u, r, b1, b3, rfl, rfl, h1, h⟩ := h
    cases j with
    | zero =>
      rcases h1 with ⟨_, rfl⟩ | ⟨q, _⟩
      · exact ⟨b2 ++ b3, ⟨v, r, b2, b3, rfl, rfl, .inr ⟨by simp, hk⟩, h⟩, by rw [List.nil_append]⟩
      · exact absurd rfl q
    | succ j =>
      have h1 := h1.resolve_left (fun q => by simp at q)
      obtain ⟨r2, g1, g2⟩ := KVs.put h (by simpa using hj) hk
      refine ⟨b1 ++ r2, ⟨u, r.set j v, b1, r2, rfl, rfl, .inr ⟨by simp, h1.2⟩, g1⟩, ?_⟩
      have p1 : (b1 ++ (b2 ++ b3)).Perm (b2 ++ (b1 ++ b3)) := by
        rw [← List.append_assoc, ← List.append_assoc]
        exact List.perm_append_comm.append_right b3
      exact (g2.append_left b1).trans p1
theorem KVs.push : {xs : List t.sh.den} → {vs : List Value} → {bs : List Nat} → KVs w M t xs vs none bs → {x : t.sh.den} → {v : Value} → {b2 : List Nat} → KV w M t x v b2 → KVs w M t (xs ++ [x]) (vs ++ [v]) none (bs ++ b2)
  | [], _, _, h, x, v, b2, hk => by
    obtain ⟨rfl, rfl⟩ := h
    exact ⟨v, [], b2, [], rfl, by simp, .inr ⟨by simp, hk⟩, rfl, rfl⟩
  | y :: xs, _, _, h, x, v, b2, hk => by
    obtain ⟨u, r, b1, b3, rfl, rfl, h1, h⟩ := h
    have h1 := h1.resolve_left (fun q => by cases q.1)
    exact ⟨u, r ++ [v], b1, b3 ++ b2, rfl, by simp, .inr ⟨by simp, h1.2⟩, KVs.push h hk⟩
end
end Go.Abs
