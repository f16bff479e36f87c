/- lattice.Table.three: the iterator goes through all three elements. -/
import Derived.Test.YtagghgmpdjoknaaDoorIter
namespace Go.Proofs.YtagghgmpdjoknaaDoor
open Go.Abs Go.RowKit Go.Shelf
attribute [local go_sem] Oper.semAt_some
abbrev Ks_three : List Kd := [.dat (.pair (.pair (.int .i64) (.sl (.int .u32))) (.pair (.sl (.int .i64)) (.pair (.sl (.int .i64)) (.pair (.int .i64) (.int .i64)))))]
def threeL (m : Nat) : List (Int × Int × Int) := (List.range (m * m * m)).map fun i => (((i / m / m : Nat) : Int), ((i / m % m : Nat) : Int), ((i % m : Nat) : Int))
def threeXs (x : Dens Ks_three) : List (Int × Int × Int) := threeL x.1.1.1.toNat
def threeOk (x : Dens Ks_three) : Bool := decide (x.1.1.1 < 40)
theorem three_lt {m a b c : Nat} (ha : a < m) (hb : b < m) (hc : c < m) : (a * m + b) * m + c < m * m * m := by
  have h1 : a * m + b < m * m := by
    have : (a + 1) * m ≤ m * m := Nat.mul_le_mul (by omega) (Nat.le_refl _)
    rw [Nat.succ_mul] at this
    omega
  have : (a * m + b + 1) * m ≤ m * m * m := Nat.mul_le_mul (by omega) (Nat.le_refl _)
  rw [Nat.succ_mul] at this
  omega
theorem three_get {m a b c : Nat} (ha : a < m) (hb : b < m) (hc : c < m) : (threeL m)[(a * m + b) * m + c]? = some ((a : Int), (b : Int), (c : Int)) := by
  have hm : 0 < m := by omega
  have e1 : ((a * m + b) * m + c) / m = a * m + b := by rw [Nat.add_comm, Nat.add_mul_div_right _ _ hm, Nat.div_eq_of_lt hc, Nat.zero_add]
  have e2 : ((a * m + b) * m + c) % m = c := by rw [Nat.add_comm, Nat.add_mul_mod_self_right, Nat.mod_eq_of_lt hc]
  have e3 : (a * m + b) / m = a := by rw [Nat.add_comm, Nat.add_mul_div_right _ _ hm, Nat.div_eq_of_lt hb, Nat.zero_add]
  have e4 : (a * m + b) % m = b := by rw [Nat.add_comm, Nat.add_mul_mod_self_right, Nat.mod_eq_of_lt hb]
  unfold threeL
  rw [List.getElem?_map, List.getElem?_range (three_lt ha hb hc)]
  simp only [Option.map_some, e1, e2, e3, e4]
theorem mem_threeL {m : Nat} {x : Int × Int × Int} : x ∈ threeL m ↔ ∃ a b c : Nat, a < m ∧ b < m ∧ c < m ∧ x = ((a : Int), (b : Int), (c : Int)) := by
  constructor
  · intro hx
    obtain ⟨i, hi, rfl⟩ := List.mem_map.1 hx
    have hi := List.mem_range.1 hi
    have hm : 0 < m := Nat.pos_of_ne_zero fun e => by subst e; simp at hi
    exact ⟨i / m / m, i / m % m, i % m, Nat.div_lt_of_lt_mul (Nat.div_lt_of_lt_mul (by rwa [← Nat.mul_assoc])), Nat.mod_lt _ hm, Nat.mod_lt _ hm, rfl⟩
  · rintro ⟨a, b, c, ha, hb, hc, rfl⟩
    exact List.mem_of_getElem? (three_get ha hb hc)
set_option maxRecDepth 100000 in
set_option maxHeartbeats 1000000 in
theorem three_in (n l m : Nat) (N : Int) (hN : m = N.toNat) (hN2 : N < 4611686018427387904) (v1 v2 v3 v4 v5 : Value) (J : Nat → World → Prop) (Jx : World → Prop) (W : World)
    (hc : ∀ i X, J i X → X.cell? ⟨W.heap.size, 0, none⟩ = some (.int .i64 N))
    (hY : ∀ (a b c : Nat) X, a < m → b < m → c < m → J ((a * m + b) * m + c) X → YieldAt Fence.wide (n - 1) Tryd.prog l #[.agg #[.int .i64 a, .int .i64 b, .int .i64 c]] X fun e W' => (e = .returned (.bool true) ∧ J ((a * m + b) * m + c + 1) W') ∨ (e = .returned (.bool false) ∧ Jx W'))
    (h0 : J 0 (W.alloc (.cells #[.int .i64 N, v1, v2, v3, v4, v5] 101))) :
    CallsIn Fence.wide n Tryd.prog 58 #[.agg #[.int .i64 N, v1, v2, v3, v4, v5], .func (.yield l) #[] #[]] W fun e W' => (∃ v, e = .returned v) ∧ (J (m * m * m) W' ∨ Jx W') := by
  refine callsIn_of_wp Tryd.func58 rfl trivial ?_ rfl
  simp only [Tryd.ntmps58, List.size_toArray, List.length_cons, List.length_nil, Nat.reduceAdd, Nat.reduceSub, Array.replicate_succ, Array.replicate_zero, List.push_toArray, List.append_toArray, List.nil_append, List.cons_append]
  have hbox := hc 0 _ h0
  gi_wp2
  gi_loopw [10] (fun p wr => ∃ a : Nat, p = .int .i64 (a : Int) ∧ a ≤ m ∧ J (a * m * m) wr) (fun p _ => m - (Lib.intOf p).toNat)
  case atStart => exact ⟨0, rfl, Nat.zero_le _, by simpa using h0⟩
  case round =>
    obtain ⟨a, rfl, ham, hJ⟩ := hrel
    have hb1 := hc _ _ hJ
    by_cases ha : a < m
    · have hlt : decide ((a : Int) < N) = true := decide_eq_true (by omega)
      gi_wp2
      gi_loopw [16] (fun p wr => ∃ b : Nat, p = .int .i64 (b : Int) ∧ b ≤ m ∧ J ((a * m + b) * m) wr) (fun p _ => m - (Lib.intOf p).toNat)
      case atStart => exact ⟨0, rfl, Nat.zero_le _, hJ⟩
      case round =>
        obtain ⟨b, rfl, hbm, hJ⟩ := hrel
        have hb1 := hc _ _ hJ
        by_cases hb : b < m
        · have hlt : decide ((b : Int) < N) = true := decide_eq_true (by omega)
          gi_wp2
          gi_loopw [22] (fun p wr => ∃ c : Nat, p = .int .i64 (c : Int) ∧ c ≤ m ∧ J ((a * m + b) * m + c) wr) (fun p _ => m - (Lib.intOf p).toNat)
          case atStart => exact ⟨0, rfl, Nat.zero_le _, hJ⟩
          case round =>
            obtain ⟨c, rfl, hcm, hJ⟩ := hrel
            have hb1 := hc _ _ hJ
            by_cases hcc : c < m
            · have hlt : decide ((c : Int) < N) = true := decide_eq_true (by omega)
              obtain ⟨fn, tmps, assign, body, hy, hR⟩ := hY a b c wr ha hb hcc hJ
              gi_wp2
              refine ⟨fun h => (by cases h), hR.mono ?_⟩
              rintro e W3 (⟨rfl, hJ3⟩ | ⟨rfl, hJ3⟩)
              · gi_wp2
                exact ⟨⟨c + 1, rfl, by omega, hJ3⟩, by simp only [Lib.intOf]; omega⟩
              · gi_wp2
                refine bodyPost_ret (results_none rfl _ _ _) rfl ?_
                exact ⟨⟨_, rfl⟩, .inr hJ3⟩
            · have hlt : decide ((c : Int) < N) = false := decide_eq_false (by omega)
              have hcm : c = m := by omega
              gi_wp2
              exact ⟨⟨b + 1, rfl, by omega, by rw [hcm, ← Nat.succ_mul] at hJ; exact hJ⟩, by simp only [Lib.intOf]; omega⟩
        · have hlt : decide ((b : Int) < N) = false := decide_eq_false (by omega)
          have hbm' : b = m := by omega
          gi_wp2
          exact ⟨⟨a + 1, rfl, by omega, by rw [hbm', ← Nat.succ_mul] at hJ; exact hJ⟩, by simp only [Lib.intOf]; omega⟩
    · have hlt : decide ((a : Int) < N) = false := decide_eq_false (by omega)
      gi_wp2
      go_end0
      have : a = m := by omega
      subst this
      exact ⟨⟨_, rfl⟩, .inl hJ⟩
theorem sp_three : SpecIa Tryd.prog Gs (1000000 + 58) Ks_three (.pair (.int .i64) (.pair (.int .i64) (.int .i64))) threeOk threeXs := by
  intro M w x vs hok hM hg hgm hv r n
  obtain ⟨⟨⟨N, up⟩, J0, M0, b0, t0⟩, ⟨⟩⟩ := x
  have hN1 : N < 40 := of_decide_eq_true hok
  have hN2 : N < 4611686018427387904 := Int.lt_trans hN1 (by decide)
  simp only [kvals, RVs, Kd.val, enc, encL, RV, List.cons_append, List.nil_append] at hv
  obtain ⟨v, _, rfl, ⟨cs, rfl, -, y0, z0, e0, rfl, y1, z1, rfl, -, y2, z2, rfl, -, y3, z3, rfl, -, y4, z4, rfl, rfl, y5, z5, rfl, rfl, rfl⟩, rfl⟩ := hv
  have hcs : cs = #[.int .i64 N, y1, y2, y3, .int .i64 b0, .int .i64 t0] := by apply Array.ext'; simpa using e0
  subst hcs
  intro l J Jx W hW hl hl' h0 hg1 hg2 hp hy
  have hB : Below W.heap.size W (W.alloc (.cells #[.int .i64 N, y1, y2, y3, .int .i64 b0, .int .i64 t0] 101)) := (Below.refl _ W).alloc (Nat.le_refl _) _
  have hcell : (W.alloc (.cells #[.int .i64 N, y1, y2, y3, .int .i64 b0, .int .i64 t0] 101)).cell? ⟨W.heap.size, 0, none⟩ = some (.int .i64 N) := World.cell?_alloc_at _ _ _ 0 rfl
  generalize hBe : W.alloc (.cells #[.int .i64 N, y1, y2, y3, .int .i64 b0, .int .i64 t0] 101) = B at hB hcell
  have hsz : B.heap.size = W.heap.size + 1 := by rw [← hBe]; simp
  have key := three_in n l N.toNat N rfl hN2 y1 y2 y3 (.int .i64 b0) (.int .i64 t0) (J B) (Jx B) W
    (fun i X hX => (World.cell?_of_block (w := B) ((hp B i X hX).2 W.heap.size (by omega) (by omega) (fun hm => by have := hM _ hm; have := hW.size; omega))).trans hcell)
    (fun a b c X ha hb hc hX => hy B _ _ X (by rw [List.getElem?_map, show threeXs (((N, up), J0, M0, b0, t0), PUnit.unit) = threeL N.toNat from rfl, three_get ha hb hc]; rfl) hX)
    (by rw [hBe]; exact h0 B hB)
  refine CallsIn.mono (F := WF r) key ?_
  rintro e W' ⟨h1, h2⟩
  refine ⟨h1, B, h2.imp (fun h => ?_) id⟩
  have : (threeXs (((N, up), J0, M0, b0, t0), PUnit.unit)).length = N.toNat * N.toNat * N.toNat := by simp [threeXs, threeL]
  simpa [this] using h
theorem en_three : IEntOk Tryd.prog Gs (mkIa 1000058 Ks_three (.pair (.int .i64) (.pair (.int .i64) (.int .i64))) threeOk threeXs) := entIa ⟨Tryd.f58, bodyOf Tryd.f58, by kernel_rfl, by kernel_rfl, rfl⟩ (by kernel_rfl) sp_three
end Go.Proofs.YtagghgmpdjoknaaDoor
