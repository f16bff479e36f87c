/- slices.Backward: the iterator goes through a slice from its end. -/
import Derived.Test.YtdlhfddmbdbedaaDoorIter
namespace Go.Proofs.YtdlhfddmbdbedaaDoor
open Go.Abs Go.RowKit Go.Shelf
attribute [local go_sem] Oper.semAt_some
-- slices.Backward[[]int,int]
abbrev Ks_slices_Backward_Lint_int : List Kd := [.dat (.sl (.int .i64))]
abbrev Rt_slices_Backward_Lint_int : Type := List Int
def T_slices_Backward_Lint_int : List (Nat × TE) := []
noncomputable def C_slices_Backward_Lint_int (_N : Nat) : Ctx := { T := T_slices_Backward_Lint_int, G := findE [], I := findI [], N := _N, n := 4, fx := [], fl := 0, gs := Gs }
noncomputable def slices_Backward_Lint_int_1 (_N : Nat) (_x1 : List Int) : Option Rt_slices_Backward_Lint_int :=
  (some _x1)
theorem slices_Backward_Lint_int_1e (_N : Nat) (_x1 : List Int) :
    exec (C_slices_Backward_Lint_int _N) (cAt (bodyOf Tryd.f79) []) .none [(0, .sl (.int .i64) _x1)] [] (canonR (fun _i _t _h => none) (finK (C_slices_Backward_Lint_int _N) [.tmp 2] (finB 85 (.sl (.int .i64))))) = slices_Backward_Lint_int_1 _N _x1 :=
  by kernel_rfl
noncomputable def D_slices_Backward_Lint_int (_N : Nat) (x : Dens Ks_slices_Backward_Lint_int) : Option Rt_slices_Backward_Lint_int := slices_Backward_Lint_int_1 _N x.1
theorem E_slices_Backward_Lint_int (_N : Nat) (x : Dens Ks_slices_Backward_Lint_int) : exec (C_slices_Backward_Lint_int _N) (bodyOf Tryd.f79) .none (argS 0 (kvals Ks_slices_Backward_Lint_int x)) [] (finK (C_slices_Backward_Lint_int _N) [.tmp 2] (finB 85 (.sl (.int .i64)))) = D_slices_Backward_Lint_int _N x :=
  (congrArg (fun K => exec (C_slices_Backward_Lint_int _N) (bodyOf Tryd.f79) .none (argS 0 (kvals Ks_slices_Backward_Lint_int x)) [] K) canonR_fin).trans (slices_Backward_Lint_int_1e _N x.1)
theorem ok_slices_Backward_Lint_int (_N : Nat) : CtxOk Tryd.prog Gs Tryd.f79 (C_slices_Backward_Lint_int _N) := ⟨rfl, by unfold TOk; kernel_rfl, gOk_of rfl rfl (List.forall_mem_nil _), iOk_of rfl rfl (List.forall_mem_nil _), rfl⟩
theorem hb_slices_Backward_Lint_int : HasBody Tryd.prog 79 := ⟨Tryd.f79, bodyOf Tryd.f79, by kernel_rfl, by kernel_rfl, rfl⟩
theorem sp_slices_Backward_Lint_int (_N : Nat) : SpecB Tryd.prog Gs 79 Ks_slices_Backward_Lint_int 85 (.sl (.int .i64)) (D_slices_Backward_Lint_int _N) := specB_of (c := bodyOf Tryd.f79) (by kernel_rfl) rfl (by kernel_rfl) (Nat.le_of_ble_eq_true (by kernel_rfl)) fun x y _h => ⟨C_slices_Backward_Lint_int _N, .none, ok_slices_Backward_Lint_int _N, (E_slices_Backward_Lint_int _N x).trans _h⟩
theorem en_slices_Backward_Lint_int (_N : Nat) : EntOk Tryd.prog Gs (mkB 79 Ks_slices_Backward_Lint_int 85 (.sl (.int .i64)) (D_slices_Backward_Lint_int _N)) := entB hb_slices_Backward_Lint_int (sp_slices_Backward_Lint_int _N)
abbrev Ks_back : List Kd := [.ptr (.sl (.int .i64))]
def backXs (x : Dens Ks_back) : List (Int × Int) := ((List.range x.1.length).map fun (i : Nat) => ((i : Int), nth 0 x.1 i)).reverse
theorem back_get {xs : List Int} {i t : Nat} (h : i + t + 1 = xs.length) : (backXs (xs, ()))[i]? = some ((t : Int), nth 0 xs t) := by
  have hl : ((List.range xs.length).map fun (i : Nat) => ((i : Int), nth 0 xs i)).length = xs.length := by simp
  show ((List.range xs.length).map fun (i : Nat) => ((i : Int), nth 0 xs i)).reverse[i]? = _
  rw [List.getElem?_reverse (by rw [hl]; omega), hl, show xs.length - 1 - i = t by omega, List.getElem?_map, List.getElem?_range (by omega)]
  rfl
set_option maxRecDepth 100000 in
set_option maxHeartbeats 1000000 in
theorem back_in (n l B q cap : Nat) (aB : Option Addr) (xs : List Int) (hxs : xs.length ≤ 9223372036854775807) (J : Nat → World → Prop) (Jx : World → Prop)
    (hB : ∀ i X, J i X → X.cell? ⟨B, q, none⟩ = some (.slice aB xs.length cap))
    (hE : ∀ i X, J i X → ∀ t, t < xs.length → ∃ b2 o2, aB = some ⟨b2, o2, none⟩ ∧ X.cell? ⟨b2, o2 + t, none⟩ = some (.int .i64 (nth 0 xs t)))
    (hY : ∀ i t X, i + t + 1 = xs.length → J i X → YieldAt Fence.wide (n - 1) Tryd.prog l #[.int .i64 (t : Nat), .int .i64 (nth 0 xs t)] X fun e W' => (e = .returned (.bool true) ∧ J (i + 1) W') ∨ (e = .returned (.bool false) ∧ Jx W'))
    (W : World) (h0 : J 0 W) :
    CallsIn Fence.wide n Tryd.prog 85 #[.func (.yield l) #[] #[], .pointer (some ⟨B, q, none⟩)] W fun e W' => (∃ v, e = .returned v) ∧ (J xs.length W' ∨ Jx W') := by
  refine callsIn_of_wp Tryd.func85 rfl trivial ?_ rfl
  simp only [Tryd.ntmps85, List.size_toArray, List.length_cons, List.length_nil, Nat.reduceAdd, Nat.reduceSub, Array.replicate_succ, Array.replicate_zero, List.push_toArray, List.append_toArray, List.nil_append, List.cons_append]
  have hb := hB 0 W h0
  have hw0 : IntKind.i64.wrap ((xs.length : Int) - 1) = (xs.length : Int) - 1 := by rw [IntKind.wrap_i64]; omega
  gi_wp2
  gi_loopw [3] (fun p wr => ∃ i : Nat, p = .int .i64 ((xs.length : Int) - 1 - (i : Int)) ∧ i ≤ xs.length ∧ J i wr) (fun p _ => (Lib.intOf p + 1).toNat)
  case atStart => exact ⟨0, by simp, Nat.zero_le _, h0⟩
  case round =>
    obtain ⟨i, hp, hi, hJ⟩ := hrel
    have hb1 := hB _ _ hJ
    by_cases hin : i < xs.length
    · obtain ⟨t, ht⟩ : ∃ t : Nat, i + t + 1 = xs.length := ⟨xs.length - 1 - i, by omega⟩
      have e : (xs.length : Int) - 1 - (i : Int) = (t : Int) := by omega
      rw [e] at hp
      subst hp
      obtain ⟨b2, o2, rfl, hc⟩ := hE _ _ hJ t (by omega)
      have hge : decide ((t : Int) ≥ 0) = true := decide_eq_true (by omega)
      have h12 : 0 ≤ (t : Int) ∧ (t : Int) < (xs.length : Int) := ⟨by omega, by omega⟩
      obtain ⟨fn, tmps, assign, body, hy, hR⟩ := hY i t wr ht hJ
      gi_wp2
      refine ⟨fun h => (by cases h), hR.mono ?_⟩
      have hw : IntKind.i64.wrap ((t : Int) - 1) = (t : Int) - 1 := by rw [IntKind.wrap_i64]; omega
      rintro e W3 (⟨rfl, hJ3⟩ | ⟨rfl, hJ3⟩)
      · gi_wp2
        exact ⟨⟨i + 1, by congr 1; omega, by omega, hJ3⟩, by simp only [Lib.intOf]; omega⟩
      · gi_wp2
        refine bodyPost_ret (results_none rfl _ _ _) rfl ?_
        exact ⟨⟨_, rfl⟩, .inr hJ3⟩
    · have e : (xs.length : Int) - 1 - (i : Int) = -1 := by omega
      rw [e] at hp
      subst hp
      gi_wp2
      go_end0
      have : i = xs.length := by omega
      subst this
      exact ⟨⟨_, rfl⟩, .inl hJ⟩
theorem sp_back : SpecI Tryd.prog Gs 85 Ks_back (.pair (.int .i64) (.int .i64)) backXs := by
  intro M w x vs hg hgm hv r n
  obtain ⟨xs, ⟨⟩⟩ := x
  simp only [kvals, RVs, Kd.val, RV] at hv
  obtain ⟨v, _, rfl, ⟨b, q, cs, rfl, hb, hm, hc, hrc⟩, rfl⟩ := hv
  simp only [RC] at hrc
  obtain ⟨aB, cap, rfl, hlen, hcap, hrow⟩ := hrc
  intro l J Jx W hW hJ1 hJ2 hY h0
  have hcb := hc 0 _ rfl
  rw [Nat.add_zero] at hcb
  have hlb : (backXs (xs, ())).length = xs.length := by simp [backXs]
  have key := back_in n l b q cap aB xs (by unfold maxI at hcap; omega) (fun i X => J i X ∧ ∀ b, b < w.heap.size → ¬ M b → X.heap[b]? = w.heap[b]?) Jx
    (fun i X hX => (World.cell?_of_block (w := w) (hX.2 b hb hm)).trans hcb)
    (fun i X hX t ht => by
      obtain ⟨b2, o2, h1, h2, h3, h4⟩ := hrow (fun e => by subst e; simp at ht)
      obtain ⟨cs, h5, h6⟩ := h4 t _ (nth_get 0 xs t ht)
      have h6 : cs = [.int .i64 (nth 0 xs t)] := h6
      subst h6
      refine ⟨b2, o2, h1, (World.cell?_of_block (w := w) (hX.2 b2 h2 h3)).trans ?_⟩
      have := h5 0 _ rfl
      simpa [Sh.n] using this)
    (fun i t X hit hX => by
      obtain ⟨fn, tmps, c, d, hr, hq⟩ := hY i #[.int .i64 (t : Nat), .int .i64 (nth 0 xs t)] X (by rw [List.getElem?_map, show (backXs (xs, PUnit.unit))[i]? = _ from back_get hit]; rfl) hX.1
      refine ⟨fn, tmps, c, d, hr, RoundIn.mono (F := Fence.wide) hq ?_⟩
      rintro e W' (⟨h1, h2, h3⟩ | h1)
      · exact .inl ⟨h1, h2, fun b hb hm => by rw [h3 b hb hm, hX.2 b hb hm]⟩
      · exact .inr h1) W ⟨h0, fun b hb _ => hW.block b hb⟩
  refine CallsIn.mono (F := WF r) key ?_
  rintro e W' ⟨h1, h2⟩
  refine ⟨h1, h2.imp (fun h => ?_) id⟩
  have := h.1
  rw [List.length_map]
  exact (show J (backXs (xs, PUnit.unit)).length W' by rw [show (backXs (xs, PUnit.unit)).length = xs.length from hlb]; exact this)
theorem en_back : IEntOk Tryd.prog Gs (mkI 85 Ks_back (.pair (.int .i64) (.int .i64)) backXs) := entI ⟨Tryd.f85, bodyOf Tryd.f85, by kernel_rfl, by kernel_rfl, rfl⟩ (by kernel_rfl) sp_back
end Go.Proofs.YtdlhfddmbdbedaaDoor
