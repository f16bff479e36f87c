/- Appends; all operations that make or change objects; all operations. -/
import Derived.Test.YtdbjfdjpmoackaaDoorAbsOpsS3
namespace Go.Abs
open Go.RowKit
section
variable {P : Program} {C : Ctx} {r : Option Nat} {n : Nat} {w0 : World} {A M0 : Nat → Prop} {w w' : World} {h hm H : List O} {σ : Nat → Loc} {t : Nat → V} {a : Act} {o : Oper} {ρ : Type} {nid : Nat} {ob : O}
theorem rowV_of {e : TypeId} {k m : Nat} {v : Value} {cs : List Value} (h : w.ownsRow 0 e k v m cs) : ∃ l : Loc, v = rowV l m ∧ (∀ b, l.a = some b → v.ownBlock = some b) := by
  rcases h.2 with ⟨rfl, rfl⟩ | ⟨g, cap, cur, rfl, _⟩
  · exact ⟨⟨none, 0⟩, rfl, fun b hb => by cases hb⟩
  · exact ⟨⟨some g, cap⟩, rfl, fun b hb => by cases hb; rfl⟩
/-- Nothing is appended. -/
theorem run_append0 {ty e : TypeId} {i : TypeInfo} (hu : P.underlying ty = some (.slice e)) (hi : P.info? e = some i) {rt : TypeId} {b ao : Option Addr} {m cap c : Nat} (hle : m ≤ cap) :
    (Builtin.append_ #[ty, ty] rt #[.slice b m cap, .slice ao 0 c]).run P w = .ok (.slice b m cap) w := by
  have hf : (Builtin.firstCells i.size 0 (.slice ao 0 c)).run P w = .ok #[] w := by
    cases ao <;> simp [Builtin.firstCells, loadCells, loadCellsFrom]
  cases b <;> simp [Builtin.append_, run_underlying hu, sizeOf, typeInfo, hi, Builtin.lenOf, hle, hf, storeCells]
/-- What an append onto an own row gives. -/
theorem append_own {ty e : TypeId} {i : TypeInfo} {z : Value} (hu : P.underlying ty = some (.slice e)) (hi : P.info? e = some i) (hz : i.zero = some z) (hzs : z.cells.size = i.size) (hsz : 0 < i.size) {rt : TypeId} {l : Loc} {m : Nat} {cs : List Value}
    (hown : w.ownsRow 0 e i.size (rowV l m) m cs) {ad : Addr} {k c : Nat} {news : List Value} (hl : news.length = k * i.size) (hnews : ∀ j u, news[j]? = some u → w.cell? (ad.add j) = some u) (h1 : ∀ u ∈ news, u.oneCell' = true)
    (hk : 0 < k) (hbytes : (m + k) * i.bytes ≤ 70368744177664) (h63 : m + k ≤ maxLen) :
    ∃ l' w', (Builtin.append_ #[ty, ty] rt #[rowV l m, .slice (some ad) k c]).run P w = .ok (rowV l' (m + k)) w' ∧ w'.ownsRow 0 e i.size (rowV l' (m + k)) (m + k) (cs ++ news) ∧
      ((l' = l ∧ w.grownBy w' l.a) ∨ (l'.a = some w.heap.size ∧ Below w.heap.size w w')) := by
  obtain ⟨v', w', hr, ho, hg, _⟩ := run_append_own (P := P) w 0 ty rt e i z i.size i.bytes hu hi hz rfl rfl hzs hsz (rowV l m) m cs hown ad k c news hl hnews h1 h63 (by omega) (Nat.zero_le _)
  have below : ∀ {cells : Array Value} {b : Value}, (Builtin.append_ #[ty, ty] rt #[rowV l m, .slice (some ad) k c]).run P w = .ok (.slice (some ⟨w.heap.size, 0, none⟩) (m + k) (grownCap w (m + k) l.cap e)) (w.drew.alloc (.cells cells e)) →
      ∃ l' w', (Builtin.append_ #[ty, ty] rt #[rowV l m, .slice (some ad) k c]).run P w = .ok (rowV l' (m + k)) w' ∧ w'.ownsRow 0 e i.size (rowV l' (m + k)) (m + k) (cs ++ news) ∧
      ((l' = l ∧ w.grownBy w' l.a) ∨ (l'.a = some w.heap.size ∧ Below w.heap.size w w')) := fun {cells b} hr2 => by
    rw [hr2] at hr
    cases hr
    exact ⟨⟨some w.heap.size, grownCap w (m + k) l.cap e⟩, _, hr2, ho, .inr ⟨rfl, ((Below.refl _ w).drew).alloc (Nat.le_refl _) _⟩⟩
  rcases hown.2 with ⟨hv, hm⟩ | ⟨g, cap, cur, hv, _, hgc, hle, hcap, hcs, htake⟩
  · -- nil
    subst hm
    have hcs0 : cs = [] := List.eq_nil_of_length_eq_zero (by simpa using hown.1)
    have hcap0 : l.cap = 0 := by simp only [rowV, Value.slice.injEq] at hv; exact hv.2.2
    have hr2 := run_append_nil (P := P) w ty rt e i z hu hi hz ad k c news hl hnews hk (by unfold maxLen at h63; omega) (by have := hbytes; simp only [Nat.zero_add] at this; omega)
    rw [← hv] at hr2
    refine below (b := v') (cells := news.toArray ++ Builtin.zeroCells z.cells (grownCap w k 0 e - k)) ?_
    rw [Nat.zero_add, hcap0]
    exact hr2
  · have hl' := hv
    simp only [rowV, Loc.addr, Value.slice.injEq, true_and] at hl'
    obtain ⟨hla, hlc⟩ := hl'
    have hla : l.a = some g := by
      cases h : l.a with
      | none => rw [h] at hla; cases hla
      | some b => rw [h] at hla; simp at hla; rw [hla]
    by_cases hroom : m + k ≤ cap
    · have hfit : m * i.size + news.length ≤ cur.size := by rw [hl, hcs, ← Nat.add_mul]; exact Nat.mul_le_mul_right _ hroom
      have hr2 := run_append_room (P := P) w ty rt e i hu hi g m cap cur hgc ad k c news hl hnews h1 hroom hfit
      rw [← hv, hr] at hr2
      cases hr2
      have hrv : Value.slice (some ⟨g, 0, none⟩) (m + k) cap = rowV l (m + k) := by simp [rowV, Loc.addr, hla, hlc]
      rw [hrv] at hr ho
      refine ⟨l, _, hr, ho, .inl ⟨rfl, ?_⟩⟩
      rw [hv] at hg
      rw [hla]; exact hg
    · have holds : ∀ j u, cs[j]? = some u → w.cell? ((⟨g, 0, none⟩ : Addr).add j) = some u := by rw [hv] at hown; exact hown.cells (g := g) rfl
      have hr2 := run_append_grow (P := P) w ty rt e i z hu hi hz ⟨g, 0, none⟩ m cap cs hown.1 holds ad k c news hl hnews (by omega) (by unfold maxLen at h63; omega) (growslice_fits (by omega) (by omega))
      rw [← hv] at hr2
      refine below (b := v') (cells := cs.toArray ++ news.toArray ++ Builtin.zeroCells z.cells (grownCap w (m + k) cap e - (m + k))) ?_
      rw [hlc]
      exact hr2
/-- The cells of what is read as a slice. -/
theorem srcCells (R : Rep w0 A M0 w h σ) (hs : Sub hm h) {s : Sh} {v : V} {x : Value} (hv : RV w (mutb M0 h σ) h σ v x) {ys : List s.den} (hd : decSl hm s v = some ys) :
    ∃ ao c ds, x = .slice ao ys.length c ∧ RL w (mutb M0 h σ) s ys ds ∧ (ys = [] ∨ ∃ b q, ao = some ⟨b, q, none⟩ ∧ CellsAt w b q ds) := by
  cases v with
  | nil =>
    simp only [decSl, Option.some.injEq] at hd
    subst hd
    simp only [RV] at hv
    exact ⟨none, 0, [], hv, rfl, .inl rfl⟩
  | sl s' zs =>
    simp only [decSl] at hd
    obtain ⟨e, rfl⟩ := castSh_some hd
    cases e
    simp only [RV] at hv
    obtain ⟨ao, c, ds, h1, h2, h3⟩ := hv.cellsOf
    exact ⟨ao, c, ds, h1, h2, h3.imp id fun ⟨b, q, h4, _, _, h5⟩ => ⟨b, q, h4, h5⟩⟩
  | slc o ver =>
    simp only [decSl] at hd
    split at hd
    · rename_i fz ver' e s' zs eo
      obtain ⟨hvv, hd⟩ := cond_some hd
      obtain ⟨ee, rfl⟩ := castSh_some hd
      cases ee
      simp only [RV] at hv
      obtain ⟨fz1, ver1, e1, s1, xs1, eo1, hl, _, hx⟩ := hv
      have eh := hs.get eo (by simp)
      rw [eh] at eo1
      cases eo1
      have ro := R.obj o
      rw [eh] at ro
      have hx := hx (Nat.eq_of_beq_eq_true hvv)
      cases ha : (σ o).a with
      | some b =>
        obtain ⟨cs, h1, h2⟩ := rowCells ro ha
        exact ⟨_, _, cs, hx, h2, .inr ⟨b, 0, by simp [Loc.addr, ha], h1⟩⟩
      | none =>
        have h0 : zs = [] := by
          cases fz with
          | true =>
            obtain ⟨_, r1, _⟩ := ro
            obtain ⟨ao, c, ds, h1, h2, h3⟩ := r1.cellsOf
            rcases h3 with h3 | ⟨b, q, rfl, _⟩
            · exact h3
            · simp [rowV, Loc.addr, ha] at h1
          | false =>
            obtain ⟨_, cs, r1, _⟩ := ro
            rcases r1.2 with ⟨_, h0⟩ | ⟨g, cap, cur, hv, _⟩
            · exact List.eq_nil_of_length_eq_zero h0
            · simp [rowV, Loc.addr, ha] at hv
        subst h0
        exact ⟨_, _, [], hx, rfl, .inl rfl⟩
    · cases hd
  | _ => simp [decSl] at hd
theorem append_args {tys : Array TypeId} {args : Array Value} {ty ty' rt : TypeId} {u v : Value} (h0 : tys[0]? = some ty) (h1 : tys[1]? = some ty') (h2 : args[0]? = some u) (h3 : args[1]? = some v) :
    Builtin.append_ tys rt args = Builtin.append_ #[ty, ty'] rt #[u, v] := by
  unfold Builtin.append_
  simp only [h0, h1, h2, h3]
  rfl
theorem appendNil (R : Rep w0 A M0 w h σ) {ty e : TypeId} {ee : TE} {i : TypeInfo} {z : Value} (hu : P.underlying ty = some (.slice e)) (hi : TeIs P e ee i z) {rt : TypeId} {s : Sh} (hsn : s.n = ee.size) (h1 : 1 ≤ ee.size) {ys : List s.den} {ao : Option Addr} {c : Nat} {ds : List Value}
    (hds : RL w (mutb M0 h σ) s ys ds) (hloc : ys = [] ∨ ∃ b q, ao = some ⟨b, q, none⟩ ∧ CellsAt w b q ds) (hby : ys.length * i.bytes ≤ 70368744177664) (hb1 : 1 ≤ i.bytes) (hn : getO h nid = .none)
    (hH : getO H nid = .row false 0 e s ys) (hH' : ∀ o, o ≠ nid → getO H o = getO h o) :
    ∃ val w', (Builtin.append_ #[ty, ty] rt #[.slice none 0 0, .slice ao ys.length c]).run P w = .ok val w' ∧ PostW w0 A M0 w h σ H (.slc nid 0) val w' := by
  have hsi : i.size = s.n := by rw [hi.size, hsn]
  have hzs : z.cells.size = i.size := by rw [hi.zsize, hi.size]
  have hmax : ys.length ≤ maxLen := by
    have : ys.length * 1 ≤ ys.length * i.bytes := Nat.mul_le_mul_left _ hb1
    unfold maxLen; omega
  have hown0 : w.ownsRow 0 e i.size (rowV ⟨none, 0⟩ 0) 0 [] := ⟨by simp, .inl ⟨rfl, rfl⟩⟩
  by_cases hk : ys = []
  · subst hk
    have hr0 := run_append0 (P := P) (w := w) hu hi.info (rt := rt) (b := none) (ao := ao) (m := 0) (cap := 0) (c := c) (Nat.le_refl _)
    refine ⟨_, _, hr0, ?_⟩
    exact mk_row (l := ⟨none, 0⟩) (cs := []) (xs := []) R hn hH hH' (Below.refl _ _) (by omega) (fun b hb => by cases hb) (by rw [← hsi]; exact hown0) rfl
  · have hpos : 0 < ys.length := List.length_pos_iff.2 hk
    obtain ⟨b, q, rfl, hc⟩ := hloc.resolve_left hk
    obtain ⟨l', w', hr, ho, hcase⟩ := append_own (P := P) (rt := rt) hu hi.info hi.zero hzs (by omega) hown0 (ad := ⟨b, q, none⟩) (k := ys.length) (c := c) (news := ds) (by rw [hsi]; exact hds.length)
      (fun j u hj => by rw [addr_add]; exact hc j u hj) hds.one hpos (by rw [Nat.zero_add]; exact hby) (by rw [Nat.zero_add]; exact hmax)
    rw [Nat.zero_add, List.nil_append] at ho
    rw [Nat.zero_add] at hr
    refine ⟨_, _, hr, ?_⟩
    have hbel : Below w.heap.size w w' ∧ ∀ b, l'.a = some b → w.heap.size ≤ b := by
      rcases hcase with ⟨rfl, hg⟩ | ⟨hla, hg⟩
      · exact ⟨⟨hg.os, hg.tape, hg.output, hg.size, fun k hk => hg.block k hk (by simp)⟩, fun b hb => by cases hb⟩
      · exact ⟨hg, fun b hb => by rw [hla] at hb; cases hb; exact Nat.le_refl _⟩
    exact mk_row R hn hH hH' hbel.1 (by omega) l' hbel.2 (by rw [← hsi]; exact ho) hds
theorem appendRow (R : Rep w0 A M0 w h σ) {ty e : TypeId} {ee : TE} {i : TypeInfo} {z : Value} (hu : P.underlying ty = some (.slice e)) (hi : TeIs P e ee i z) {rt : TypeId} {s : Sh} (hsn : s.n = ee.size) (h1 : 1 ≤ ee.size) {xs ys : List s.den} {ao : Option Addr} {c : Nat} {ds : List Value}
    (hds : RL w (mutb M0 h σ) s ys ds) (hloc : ys = [] ∨ ∃ b q, ao = some ⟨b, q, none⟩ ∧ CellsAt w b q ds) {ob ver : Nat} (eh : getO h ob = .row false ver e s xs)
    (hby : (xs.length + ys.length) * i.bytes ≤ 70368744177664) (hb1 : 1 ≤ i.bytes) :
    ∃ val w', (Builtin.append_ #[ty, ty] rt #[.slice (σ ob).addr xs.length (σ ob).cap, .slice ao ys.length c]).run P w = .ok val w' ∧
      PostW w0 A M0 w h σ (h.set ob (.row false (ver + 1) e s (xs ++ ys))) (.slc ob (ver + 1)) val w' := by
  have hsi : i.size = s.n := by rw [hi.size, hsn]
  have hzs : z.cells.size = i.size := by rw [hi.zsize, hi.size]
  have hmax : xs.length + ys.length ≤ maxLen := by
    have : (xs.length + ys.length) * 1 ≤ (xs.length + ys.length) * i.bytes := Nat.mul_le_mul_left _ hb1
    unfold maxLen; omega
  have ro := R.obj ob
  rw [eh] at ro
  obtain ⟨hs1, cs, hown, hrl⟩ := ro
  have hlt := getO_lt (h := h) (i := ob) (by rw [eh]; simp)
  have hgs := getO_set hlt (.row false (ver + 1) e s (xs ++ ys))
  -- the step, given the row behind it
  have fin : ∀ (l' : Loc) (w' : World), (Builtin.append_ #[ty, ty] rt #[rowV (σ ob) xs.length, .slice ao ys.length c]).run P w = .ok (rowV l' (xs.length + ys.length)) w' →
      w'.ownsRow 0 e i.size (rowV l' (xs.length + ys.length)) (xs.length + ys.length) (cs ++ ds) → ((l' = σ ob ∧ w.grownBy w' (σ ob).a) ∨ (l'.a = some w.heap.size ∧ Below w.heap.size w w')) →
      ∃ val w', (Builtin.append_ #[ty, ty] rt #[.slice (σ ob).addr xs.length (σ ob).cap, .slice ao ys.length c]).run P w = .ok val w' ∧
        PostW w0 A M0 w h σ (h.set ob (.row false (ver + 1) e s (xs ++ ys))) (.slc ob (ver + 1)) val w' := fun l' w' hr ho hcase => by
    refine ⟨_, w', hr, updL σ ob l', ?_, ?_⟩
    · have hg : w'.os = w.os ∧ w'.tape = w.tape ∧ w'.output = w.output ∧ w.heap.size ≤ w'.heap.size := by
        rcases hcase with ⟨_, hg⟩ | ⟨_, hg⟩
        · exact ⟨hg.os, hg.tape, hg.output, hg.size⟩
        · exact ⟨hg.os, hg.tape, hg.output, hg.size⟩
      refine Next.upd R ob hg.1 hg.2.1 hg.2.2.1 hg.2.2.2 (fun o' hne => ⟨by rw [hgs, if_neg (fun e => hne e.symm)], updL_other σ l' hne⟩) (fun b hb hne => ?_)
        (fun b hlv ha => ?_) (by rw [eh]; exact ⟨false, ver + 1, e, s, xs ++ ys, by rw [hgs, if_pos rfl], by omega, fun hh => by omega⟩) (fun k st => ?_)
      · rcases hcase with ⟨_, hg⟩ | ⟨_, hg⟩
        · exact hg.block b hb (fun e => hne (by rw [eh]; rfl) e.symm)
        · exact hg.block b hb
      · rw [updL_same] at ha
        rcases hcase with ⟨rfl, _⟩ | ⟨hla, _⟩
        · exact .inl ⟨by rw [eh]; rfl, ha⟩
        · rw [hla] at ha; cases ha; exact .inr (Nat.le_refl _)
      · rw [hgs, if_pos rfl, updL_same]
        refine ⟨hs1, cs ++ ds, ?_, RL.append (RL.keeps k hrl) (RL.keeps k hds)⟩
        rw [List.length_append, ← hsi]
        exact ho
    · simp only [RV]
      exact ⟨false, ver + 1, e, s, xs ++ ys, by rw [hgs, if_pos rfl], Nat.le_refl _, rfl, fun _ => by rw [updL_same, List.length_append]; rfl⟩
  rw [← hsi] at hown
  have hlecap : xs.length ≤ (σ ob).cap := by
    rcases hown.2 with ⟨_, hm⟩ | ⟨g, cap, cur, hv, _, _, hle, _⟩
    · omega
    · simp only [rowV, Value.slice.injEq] at hv
      rw [hv.2.2]; exact hle
  by_cases hk : ys = []
  · subst hk
    have hd0 : ds = [] := by simpa only [RL] using hds
    subst hd0
    refine fin (σ ob) w ?_ (by simpa using hown) (.inl ⟨rfl, ⟨rfl, rfl, rfl, Nat.le_refl _, fun _ _ _ => rfl⟩⟩)
    have := run_append0 (P := P) (w := w) hu hi.info (rt := rt) (b := (σ ob).addr) (ao := ao) (m := xs.length) (cap := (σ ob).cap) (c := c) hlecap
    simpa [rowV] using this
  · have hpos : 0 < ys.length := List.length_pos_iff.2 hk
    obtain ⟨b, q, rfl, hc⟩ := hloc.resolve_left hk
    obtain ⟨l', w', hr, ho, hcase⟩ := append_own (P := P) (rt := rt) hu hi.info hi.zero hzs (by omega) hown (ad := ⟨b, q, none⟩) (k := ys.length) (c := c) (news := ds) (by rw [hsi]; exact hds.length)
      (fun j u hj => by rw [addr_add]; exact hc j u hj) hds.one hpos hby hmax
    exact fin l' w' hr ho hcase
theorem appendK_sound (hT : TOk P C.T) (R : Rep w0 A M0 w h σ) (hs : Sub hm h) (hrt : ∀ i, RV w (mutb M0 h σ) h σ (t i) (a.tmps.getD i undef)) {ty rt : TypeId} {x y : Operand}
    {K : V → List (Nat × O) → Option O → Option ρ} {res : ρ} (hb : appendK C hm nid ty (ev t x) (ev t y) K = some res) :
    ∃ v ss mk, K v ss mk = some res ∧ ∀ H, Applied h ss mk nid H → (mk.isSome = true → getO h nid = .none) →
      ∃ val w', (Builtin.append_ #[ty, ty] rt #[a.eval x, a.eval y]).run P w = .ok val w' ∧ PostW w0 A M0 w h σ H v val w' := by
  have ex := ev_sound hrt x
  have ey := ev_sound hrt y
  unfold appendK at hb
  split at hb
  · cases hb
  · rename_i e ee he
    obtain ⟨hu, i, z, hi⟩ := sliceElem_sound hT he
    split at hb
    · cases hb
    · rename_i s hsh
      obtain ⟨hsn, _⟩ := hi.sh s hsh
      obtain ⟨h1, hb2⟩ := cond_some hb
      clear hb
      have h1 := Nat.le_of_ble_eq_true h1
      split at hb2
      · cases hb2
      · rename_i ys hys
        obtain ⟨ao, c, ds, hyv, hds, hloc⟩ := srcCells R hs ey hys
        rw [hyv]
        split at hb2
        · rename_i hx
          rw [hx] at ex
          simp only [RV] at ex
          obtain ⟨hok, hb3⟩ := cond_some hb2
          simp only [Bool.and_eq_true, decide_eq_true_eq] at hok
          refine ⟨_, _, _, hb3, fun H hH hn => ?_⟩
          rw [ex]
          exact appendNil R hu hi hsn h1 hds hloc (by rw [hi.bytes]; exact hok.1) (by rw [hi.bytes]; exact Nat.le_of_ble_eq_true hok.2) (hn rfl) hH.1 hH.2
        · rename_i ob ver hx
          rw [hx] at ex
          simp only [RV] at ex
          obtain ⟨fz1, ver1, e1, s1, xs1, eo1, hl, h1c, hxx⟩ := ex
          cases eo : getO hm ob with
          | none => rw [eo] at hb2; cases hb2
          | cells vs => rw [eo] at hb2; cases hb2
          | row fz ver' e' s' xs =>
            have eh := hs.get eo (by simp)
            rw [eh] at eo1
            rw [eo] at hb2
            simp only at hb2
            obtain ⟨hok, hb3⟩ := cond_some hb2
            clear hb2
            simp only [Bool.and_eq_true, Bool.not_eq_true'] at hok
            obtain ⟨⟨hver, hfz⟩, hee⟩ := hok
            subst hfz
            have hver := Nat.eq_of_beq_eq_true hver
            have hee := Nat.eq_of_beq_eq_true hee
            subst hee
            subst hver
            simp only [O.row.injEq] at eo1
            obtain ⟨-, q1, -, q2, q3⟩ := eo1
            by_cases ess : s' = s
            · subst ess
              have hcast : castSh (s := .sl s') (s' := .sl s') xs = some xs := by unfold castSh; rw [dif_pos rfl]
              rw [hcast] at hb3
              simp only at hb3
              obtain ⟨hok, hb4⟩ := cond_some hb3
              clear hb3
              simp only [Bool.and_eq_true, decide_eq_true_eq] at hok
              refine ⟨_, _, _, hb4, fun H hH _ => ?_⟩
              simp only [Applied, setAll] at hH
              subst hH
              have hlen : xs1.length = xs.length := by subst q2; rw [eq_of_heq q3]
              rw [hxx q1, hlen]
              exact appendRow R hu hi hsn h1 hds hloc eh (by rw [hi.bytes]; exact hok.1) (by rw [hi.bytes]; exact Nat.le_of_ble_eq_true hok.2)
            · have hcast : castSh (s := .sl s') (s' := .sl s) xs = none := by unfold castSh; rw [dif_neg (fun e => ess (by cases e; rfl))]
              rw [hcast] at hb3
              cases hb3
        · cases hb2
/-- **What the abstract machine says of an operation that makes or changes objects is so.** -/
theorem evS_sound (hT : TOk P C.T) (R : Rep w0 A M0 w h σ) (hs : Sub hm h) (hrt : ∀ i, RV w (mutb M0 h σ) h σ (t i) (a.tmps.getD i undef)) (hS : isS o.op = true) {K : V → List (Nat × O) → Option O → Option ρ} {res : ρ} (hb : evS C o.op t hm nid K = some res) :
    ∃ v ss mk, K v ss mk = some res ∧ ∀ H, Applied h ss mk nid H → (mk.isSome = true → getO h nid = .none) → Does r n P o a w (PostW w0 A M0 w h σ H v) := by
  unfold evS at hb
  split at hb
  · rename_i e ho
    split at hb
    · cases hb
    · rename_i te hte
      exact ⟨_, _, _, hb, fun H hH hn => evS_alloc hT R hte ho (hn rfl) hH⟩
  · rename_i e x ho
    obtain ⟨hx, hb⟩ := cond_some hb
    exact ⟨_, _, _, hb, fun H hH hn => evS_box R hrt hx ho (hn rfl) hH⟩
  · rename_i ty m ps ho
    exact evS_buildSlice hT R hs hrt ho hb
  · rename_i ty l c ho
    exact evS_makeSlice hT R hrt ho hb
  · rename_i ty x y ho
    exact storeK_sound hT R hs hrt ho hb
  · rename_i c ho
    rw [ho] at hS
    split at hb
    · rename_i x y ty ty' hx hy hty hty'
      obtain ⟨heq, hb2⟩ := cond_some hb
      clear hb
      have heq := Nat.eq_of_beq_eq_true heq
      subst heq
      obtain ⟨v, ss, mk, h1, h2⟩ := appendK_sound (P := P) (rt := o.type) hT R hs hrt hb2
      refine ⟨v, ss, mk, h1, fun H hH hn => ?_⟩
      obtain ⟨val, w', h3, h4⟩ := h2 H hH hn
      have hcal : c.callee = .builtin .append := by
        unfold isS at hS
        simp only at hS
        split at hS
        · split at hS
          · assumption
          · cases hS
        · cases hS
      have hargs : ∀ (cs : Array Bool), builtin .append c.argTypes o.type cs (c.args.map a.eval) = (Builtin.append_ #[ty, ty] o.type #[a.eval x, a.eval y] >>= fun v => pure (Next.value v)) := fun cs => by
        have : Builtin.append_ c.argTypes o.type (c.args.map a.eval) = Builtin.append_ #[ty, ty] o.type #[a.eval x, a.eval y] := append_args hty hty' (by simp [hx]) (by simp [hy])
        show (Builtin.append_ c.argTypes o.type (c.args.map a.eval) >>= fun v => pure (Next.value v)) = _
        rw [this]
      refine does_value (by rw [ho]; simp) (x := val) (w' := w') ?_ h4
      simp only [execOp, ho, resolve, hcal, invoke, Sem.run_bind, Sem.run_pure, Result.andThen_ok]
      rw [hargs]
      simp only [Sem.run_bind, h3, Result.andThen_ok, Sem.run_pure]
    · cases hb
  · cases hb
end
end Go.Abs
