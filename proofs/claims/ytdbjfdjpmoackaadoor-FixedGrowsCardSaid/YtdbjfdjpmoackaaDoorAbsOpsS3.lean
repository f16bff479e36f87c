/- Stores and appends. -/
import Derived.Test.YtdbjfdjpmoackaaDoorAbsOpsS2
namespace Go.Abs
open Go.RowKit
section
variable {P : Program} {C : Ctx} {r : Option Nat} {n : Nat} {w0 : World} {A M0 : Nat → Prop} {w w' : World} {h hm H : List O} {σ : Nat → Loc} {t : Nat → V} {a : Act} {o : Oper} {ρ : Type} {nid : Nat} {ob : O}
theorem setRow_out (w : World) (g : Nat) (cs : Array Value) : (w.setRow g cs).os = w.os ∧ (w.setRow g cs).tape = w.tape ∧ (w.setRow g cs).output = w.output ∧ (w.setRow g cs).heap.size = w.heap.size ∧
    ∀ k, k ≠ g → (w.setRow g cs).heap[k]? = w.heap[k]? := ⟨rfl, rfl, rfl, size_setRow w g cs, fun k hk => setRow_other w g k cs hk⟩
theorem run_storeVar_at {ty : TypeId} {te : TE} {i : TypeInfo} {z : Value} (hi : TeIs P ty te i z) {v : Value} (hv : v.cells.size = te.size) {b off : Nat} {cur : Array Value} {e : TypeId} (hb : w.heap[b]? = some (.cells cur e (0, 0)))
    (hle : off + te.size ≤ cur.size) (h1 : ∀ c ∈ v.cells.toList, c.oneCell' = true) :
    (Instr.storeAt ty (.pointer (some ⟨b, off, none⟩)) v).run P w = .ok () (w.setRow b (cur.toList.take off ++ v.cells.toList ++ cur.toList.drop (off + v.cells.toList.length)).toArray) := by
  have := run_storeCells_at P b off e v.cells.toList 0 cur w hb (by simp [hv]; omega) h1
  simp only [Nat.add_zero] at this
  simp [Instr.storeAt, Instr.sureAddr, storeVar, hi.sizeOf, hv]
  simpa [hv] using this
theorem evS_storePtr (hT : TOk P C.T) (R : Rep w0 A M0 w h σ) (hs : Sub hm h) (hrt : ∀ i, RV w (mutb M0 h σ) h σ (t i) (a.tmps.getD i undef)) {ty : TypeId} {xa xv : Operand} {te : TE} (hte : tlook C.T ty = some te) (ho : o.op = .store ty xa xv)
    {ob off : Nat} (ha : ev t xa = .ptr ob off) (hsz : (ev t xv).cells.length = te.size) (hok : (ev t xv).okStore = true) {vs : List V} (hv : getO hm ob = .cells vs) (hle : off + te.size ≤ vs.length) :
    Does r n P o a w (PostW w0 A M0 w h σ (h.set ob (.cells (vs.take off ++ (ev t xv).cells ++ vs.drop (off + te.size)))) .bad) := by
  obtain ⟨i, z, hi⟩ := hT.get hte
  have ea := ev_sound hrt xa
  rw [ha] at ea
  simp only [RV] at ea
  obtain ⟨vs', b, eo', hab, hav⟩ := ea
  have eh := hs.get hv (by simp)
  obtain ⟨hz1, hz2⟩ := rv_one (ev_sound hrt xv) hok
  have ro := R.obj ob
  rw [eh] at ro
  obtain ⟨b', e, cs, hab', hb, hr, h1⟩ := ro
  rw [hab] at hab'; cases hab'
  have hcl : vs.length = cs.size := by rw [hr.length]; simp
  have hvl : (a.eval xv).cells.size = te.size := by have := hz1.length; simp at this; omega
  have hrun := run_storeVar_at (P := P) (w := w) hi hvl hb (by omega) hz2 (off := off)
  have hlt := getO_lt (h := h) (i := ob) (by rw [eh]; simp)
  have hg := getO_set hlt (.cells (vs.take off ++ (ev t xv).cells ++ vs.drop (off + te.size)))
  obtain ⟨q1, q2, q3, q4, q5⟩ := setRow_out w b (cs.toList.take off ++ (a.eval xv).cells.toList ++ cs.toList.drop (off + (a.eval xv).cells.toList.length)).toArray
  refine does_skip (by rw [ho]; simp) (w' := _) (by simp only [execOp, ho, hav, Sem.run_bind, hrun, Result.andThen_ok]; rfl) ⟨σ, ?_, by simp only [RV]⟩
  refine Next.upd R ob q1 q2 q3 (by omega) (fun o' hne => ⟨by rw [hg, if_neg (fun e => hne e.symm)], rfl⟩) (fun b' hb' hne => q5 b' (fun e' => hne (by rw [eh]; trivial) (by rw [e', hab])))
    (fun b' hl ha' => .inl ⟨by rw [eh]; trivial, ha'⟩) (by rw [eh]; exact ⟨_, by rw [hg, if_pos rfl], rfl⟩) (fun k st => ?_)
  rw [hg, if_pos rfl]
  have hlen2 : (a.eval xv).cells.toList.length = te.size := by simpa using hvl
  refine ⟨b, e, _, hab, setRow_heap w b cs _ e _ hb, ?_, ?_⟩
  · have hvs : vs.drop (off + (a.eval xv).cells.toList.length) = vs.drop (off + te.size) := by rw [hlen2]
    exact Eq.subst (motive := fun L => RVs _ _ _ _ (_ ++ _ ++ L) _) hvs (((RVs.keeps k st (hr.take off)).append (RVs.keeps k st hz1)).append (RVs.keeps k st (hr.drop _)))
  · intro c hc
    simp only [List.mem_append] at hc
    rcases hc with (hc | hc) | hc
    · exact h1 c (List.mem_of_mem_take hc)
    · exact hz2 c hc
    · exact h1 c (List.mem_of_mem_drop hc)
theorem encL_noslc {ob ver : Nat} : (s : Sh) → {x : s.den} → V.slc ob ver ∈ encL s x → False
  | .int _, x, hx => by simp [encL] at hx
  | .bool, x, hx => by simp [encL] at hx
  | .unit, x, hx => by simp [encL] at hx
  | .pair a b, x, hx => by
    simp only [encL, List.mem_append] at hx
    rcases hx with hx | hx
    · exact encL_noslc a hx
    · exact encL_noslc b hx
  | .sl _, x, hx => by simp [encL] at hx
theorem list_upd (cs vals : List Value) (i0 m off : Nat) (hle : off + vals.length ≤ m) (_hl : i0 + m ≤ cs.length) :
    cs.take i0 ++ (((cs.drop i0).take m).take off ++ vals ++ ((cs.drop i0).take m).drop (off + vals.length)) ++ cs.drop (i0 + m) = cs.take (i0 + off) ++ vals ++ cs.drop (i0 + off + vals.length) := by
  have e1 : cs.take (i0 + off) = cs.take i0 ++ (cs.drop i0).take off := List.take_add
  have e2 : ((cs.drop i0).take m).take off = (cs.drop i0).take off := by rw [List.take_take]; congr 1; omega
  have e3 : ((cs.drop i0).take m).drop (off + vals.length) ++ cs.drop (i0 + m) = cs.drop (i0 + off + vals.length) := by
    rw [List.drop_take, List.drop_drop]
    have : cs.drop (i0 + m) = (cs.drop (i0 + (off + vals.length))).drop (m - (off + vals.length)) := by rw [List.drop_drop]; congr 1; omega
    rw [this, List.take_append_drop, Nat.add_assoc]
  rw [e1, e2, ← e3]
  simp [List.append_assoc]
theorem take_upd (cur vals : List Value) (p N : Nat) (hp : p + vals.length ≤ N) (hN : N ≤ cur.length) :
    (cur.take p ++ vals ++ cur.drop (p + vals.length)).take N = (cur.take N).take p ++ vals ++ (cur.take N).drop (p + vals.length) := by
  have l1 : (cur.take p).length = p := by simp; omega
  have l2 : (cur.take p ++ vals).length = p + vals.length := by simp [l1]
  have A : (cur.take p ++ vals).take N = cur.take p ++ vals := List.take_of_length_le (by omega)
  rw [List.take_append, A, l2, List.drop_take, List.take_take, Nat.min_eq_left (by omega)]
theorem evS_storeRow (hT : TOk P C.T) (R : Rep w0 A M0 w h σ) (hs : Sub hm h) (hrt : ∀ i, RV w (mutb M0 h σ) h σ (t i) (a.tmps.getD i undef)) {ty : TypeId} {xa xv : Operand} {te : TE} (hte : tlook C.T ty = some te) (ho : o.op = .store ty xa xv)
    {ob ver ver' i off : Nat} {e : TypeId} {s : Sh} {xs : List s.den} (ha : ev t xa = .rptr ob ver i off) (hsz : (ev t xv).cells.length = te.size) (hok : (ev t xv).okStore = true)
    (hv : getO (setAll (frzL hm (ev t xv).cells) hm) ob = .row false ver' e s xs) (hver : ver = ver') {y : s.den} (hy : updAt (setAll (frzL hm (ev t xv).cells) hm) s (nth s.zero xs i) off (ev t xv).cells = some y) :
    Does r n P o a w (PostW w0 A M0 w h σ (setAll (frzL hm (ev t xv).cells ++ [(ob, .row false ver' e s (xs.set i y))]) h) .bad) := by
  obtain ⟨ti, z, hi⟩ := hT.get hte
  obtain ⟨hz1, hz2⟩ := rv_one (ev_sound hrt xv) hok
  have nf := frz_next hs.f R (ev t xv).cells
  have hsub := frz_sub hs (fun i hi => getO_lt (by rcases hs i with h' | h'; exact absurd h' hi; rw [← h']; exact hi)) (ev t xv).cells
  have hsetap : ∀ (ss : List (Nat × O)) (p : Nat × O) (h : List O), setAll (ss ++ [p]) h = (setAll ss h).set p.1 p.2 := by
    intro ss
    induction ss with
    | nil => intro p h; rfl
    | cons q ss ih => intro p h; obtain ⟨i, o⟩ := q; simp only [List.cons_append, setAll]; exact ih p _
  rw [hsetap]
  generalize hH1 : setAll (frzL hm (ev t xv).cells) h = H1 at *
  have ea : RV w (mutb M0 H1 σ) H1 σ (.rptr ob ver i off) (a.eval xa) := by have := ev_sound hrt xa; rw [ha] at this; exact RV.keeps nf.keeps nf.step this
  have hz1 : RVs w (mutb M0 H1 σ) H1 σ (ev t xv).cells (a.eval xv).cells.toList := RVs.keeps nf.keeps nf.step hz1
  have R1 := nf.rep
  have eh := hsub.get hv (by simp)
  simp only [RV] at ea
  obtain ⟨fz1, ver1, e1, s1, xs1, eo1, hl, h1c, hx⟩ := ea
  rw [eh] at eo1
  cases eo1
  obtain ⟨b, hab, hlt, hav⟩ := hx hver
  have ro := R1.obj ob
  rw [eh] at ro
  obtain ⟨hs1, cs, hown, hrl⟩ := ro
  have hrv : rowV (σ ob) xs.length = .slice (some ⟨b, 0, none⟩) xs.length (σ ob).cap := by simp [rowV, Loc.addr, hab]
  rw [hrv] at hown
  have hown' := hown
  rcases hown.2 with ⟨hbad, _⟩ | ⟨g, cap, cur, hgv, _, hg, hnc, hcm, hcs, htake⟩
  · cases hbad
  · simp only [Value.slice.injEq, Option.some.injEq, Addr.mk.injEq, and_true, true_and] at hgv
    obtain ⟨rfl, rfl⟩ := hgv
    unfold updAt at hy
    obtain ⟨hle, hy⟩ := cond_some hy
    have hle := Nat.le_of_ble_eq_true hle
    have hvl : (a.eval xv).cells.size = te.size := by have := hz1.length; simp at this; omega
    have hvl2 : (a.eval xv).cells.toList.length = te.size := by simpa using hvl
    -- the element's cells
    have hcsl := hrl.length
    obtain ⟨c, hc1, hc2⟩ := hrl.get (nth_get s.zero xs i hlt)
    have hcn : c.length = s.n := hc1.length
    have hmul : i * s.n + s.n ≤ xs.length * s.n := by
      have : (i + 1) * s.n ≤ xs.length * s.n := Nat.mul_le_mul_right _ hlt
      rwa [Nat.succ_mul] at this
    have hceq : c = (cs.drop (i * s.n)).take s.n := by
      apply List.ext_getElem?
      intro j
      rcases Nat.lt_or_ge j c.length with hj | hj
      · have := hc2 j c[j] (by simp [hj])
        rw [List.getElem?_take, if_pos (by omega), List.getElem?_drop, this]; simp [hj]
      · rw [List.getElem?_eq_none hj, List.getElem?_eq_none (by simp; omega)]
    have hupd : RC w (mutb M0 H1 σ) s y (c.take off ++ (a.eval xv).cells.toList ++ c.drop (off + te.size)) := by
      have hr : RVs w (mutb M0 H1 σ) H1 σ ((encL s (nth s.zero xs i)).take off ++ (ev t xv).cells ++ (encL s (nth s.zero xs i)).drop (off + (ev t xv).cells.length)) (c.take off ++ (a.eval xv).cells.toList ++ c.drop (off + te.size)) := by
        rw [hsz]
        exact (((encL_sound s hc1).take off).append hz1).append ((encL_sound s hc1).drop _)
      refine decAll_sound R1 hsub (fun b hb => hb) hr (fun v hvm o2 ver2 e2 ver3 ty3 s3 ys hg3 hvv b2 hb2 hmt => ?_) hy
      subst e2
      simp only [List.mem_append] at hvm
      rcases hvm with (hvm | hvm) | hvm
      · exact encL_noslc s (List.mem_of_mem_take hvm)
      · rcases setAll_get (frzL hm (ev t xv).cells) (h := hm) o2 with h' | ⟨ob', h3, h4⟩
        · exact frz_ref (hx := hm) (fun i hi => getO_lt hi) hvm hg3 ⟨_, _, _, _, _, by rw [← h']; exact hg3, hvv⟩
        · obtain ⟨_, _, _, _, _, _, h6⟩ := frzL_mem h3
          rw [h4, h6] at hg3; cases hg3
      · exact encL_noslc s (List.mem_of_mem_drop hvm)
    have hrun := run_storeVar_at (P := P) (w := w) hi hvl hg (by rw [hcs]; have := Nat.mul_le_mul_right s.n hnc; omega) hz2 (off := i * s.n + off)
    have hlt2 := getO_lt (h := H1) (i := ob) (by rw [eh]; simp)
    have hgs := getO_set hlt2 (.row false ver' e s (xs.set i y))
    obtain ⟨q1, q2, q3, q4, q5⟩ := setRow_out w b (cur.toList.take (i * s.n + off) ++ (a.eval xv).cells.toList ++ cur.toList.drop (i * s.n + off + (a.eval xv).cells.toList.length)).toArray
    refine does_skip (by rw [ho]; simp) (w' := _) (by simp only [execOp, ho, hav, Sem.run_bind, hrun, Result.andThen_ok]; rfl) ⟨σ, nf.trans ?_ R, by simp only [RV]⟩
    refine Next.upd R1 ob q1 q2 q3 (by omega) (fun o' hne => ⟨by rw [hgs, if_neg (fun e => hne e.symm)], rfl⟩) (fun b' hb' hne => q5 b' (fun e' => hne (by rw [eh]; rfl) (by rw [e', hab])))
      (fun b' hl ha' => .inl ⟨by rw [eh]; rfl, ha'⟩) (by rw [eh]; exact ⟨false, ver', e, s, xs.set i y, by rw [hgs, if_pos rfl], Nat.le_refl _, fun _ => ⟨rfl, rfl, by simp⟩⟩) (fun k st => ?_)
    rw [hgs, if_pos rfl]
    refine ⟨hs1, _, ?_, RL.keeps k (hrl.set hlt hupd)⟩
    have hrv2 : rowV (σ ob) (xs.set i y).length = .slice (some ⟨b, 0, none⟩) xs.length (σ ob).cap := by simp [rowV, Loc.addr, hab]
    rw [hrv2]
    have hlen : (cs.take (i * s.n) ++ (c.take off ++ (a.eval xv).cells.toList ++ c.drop (off + te.size)) ++ cs.drop (i * s.n + s.n)) =
        cs.take (i * s.n + off) ++ (a.eval xv).cells.toList ++ cs.drop (i * s.n + off + te.size) := by
      have := list_upd cs (a.eval xv).cells.toList (i * s.n) s.n off (by omega) (by omega)
      rw [hvl2] at this
      rw [hceq]; exact this
    rw [hlen]
    refine ⟨?_, .inr ⟨b, (σ ob).cap, _, by simp, Nat.zero_le _, setRow_heap w b cur _ e _ hg, by simpa using hnc, hcm, ?_, ?_⟩⟩
    · simp only [List.length_append, List.length_take, List.length_drop, hvl2, List.length_set]
      omega
    · have := Nat.mul_le_mul_right s.n hnc
      simp only [List.size_toArray, List.length_append, List.length_take, List.length_drop, hvl2, Array.length_toList]
      omega
    · have h5 := Nat.mul_le_mul_right s.n hnc
      have := take_upd cur.toList (a.eval xv).cells.toList (i * s.n + off) (xs.length * s.n) (by omega) (by simp; omega)
      rw [htake, hvl2] at this
      simp only [List.length_set, hvl2]
      exact this
theorem storeK_sound (hT : TOk P C.T) (R : Rep w0 A M0 w h σ) (hs : Sub hm h) (hrt : ∀ i, RV w (mutb M0 h σ) h σ (t i) (a.tmps.getD i undef)) {ty : TypeId} {xa xv : Operand} (ho : o.op = .store ty xa xv)
    {K : V → List (Nat × O) → Option O → Option ρ} {res : ρ} (hb : storeK C hm ty (ev t xa) (ev t xv) K = some res) :
    ∃ v ss mk, K v ss mk = some res ∧ ∀ H, Applied h ss mk nid H → (mk.isSome = true → getO h nid = .none) → Does r n P o a w (PostW w0 A M0 w h σ H v) := by
  unfold storeK at hb
  split at hb
  · cases hb
  · rename_i te hte
    obtain ⟨hok, hb⟩ := cond_some hb
    simp only [Bool.and_eq_true] at hok
    have hsz := Nat.eq_of_beq_eq_true hok.1
    split at hb
    · rename_i ob off ha
      split at hb
      · rename_i vs hv
        obtain ⟨hle, hb⟩ := cond_some hb
        have hle := Nat.le_of_ble_eq_true hle
        refine ⟨_, _, _, hb, fun H hH _ => ?_⟩
        simp only [Applied, setAll] at hH
        subst hH
        exact evS_storePtr hT R hs hrt hte ho ha hsz hok.2 hv hle
      · cases hb
    · rename_i ob ver i off ha
      split at hb
      · rename_i fz ver' e s xs hv
        obtain ⟨hver, hb2⟩ := cond_some hb
        clear hb
        simp only [Bool.and_eq_true, Bool.not_eq_true'] at hver
        obtain ⟨hver, rfl⟩ := hver
        have hver := Nat.eq_of_beq_eq_true hver
        split at hb2
        · rename_i y hy
          refine ⟨_, _, _, hb2, fun H hH _ => ?_⟩
          simp only [Applied] at hH
          subst hH
          exact evS_storeRow hT R hs hrt hte ho ha hsz hok.2 hv hver hy
        · cases hb2
      · cases hb
    · cases hb
end
end Go.Abs
