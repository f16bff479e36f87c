/- Contracts of package times, third part: clones and joins. -/
import Derived.Test.YtjfpglmmhikhbaaTimes2
namespace Go.Proofs.Ytjfpglmmhikhbaa
open Go.RowKit


/-- A slice of the call's own comes back, reading as xs; what was there is as it was. -/
def RetOwn (w : World) (xs : List Int) (e : Ending) (w' : World) : Prop := ∃ u, e = .returned u ∧ Own w' w.heap.size u xs ∧ Ext w w'
set_option maxHeartbeats 400000 in
theorem clone_any (v : Value) (xs : List Int) (w : World) (hv : Ints w v xs) (hlen : xs.length ≤ 2000000000000) :
    Calls Try.prog 34 #[v] w (RetOwn w xs) := by
  have hv1 := hid hv
  obtain ⟨a, cap, rfl, hl, hn, ha, hc⟩ := hv
  clear hc
  cases a with
  | none =>
    obtain rfl := hn rfl
    have h0 : xs.length = 0 := by rcases ha with h | ⟨_, _, h⟩; exact h; cases h
    obtain rfl : xs = [] := List.eq_nil_of_length_eq_zero h0
    go_enter Try.func34, Try.ntmps34
    go_wp2_with fail
    go_ret
    exact ⟨_, rfl, OwnL.nil _ _, Ext.refl _⟩
  | some ad =>
    clear hn ha
    go_enter Try.func34, Try.ntmps34
    go_wp2_with (at_builtin; refine app_row (enc := Value.int .i64) (fun _ => rfl) eltInt (by decide) rfl rfl _ _ rfl w.heap.size _ _ [] xs rfl rfl ?c1 ?c2 ?c3 ?c4 ?c5)
    case c1 => exact OwnL.empty w
    case c2 => exact Rd.keeps (Ext.alloc _ _) hv1.out
    case c3 => simpa using hlen
    case c4 => simp
    case c5 =>
      intro v' w' hown hg
      have hx := hid (Ext.grown (Ext.alloc w _) hg (OwnL.block (OwnL.empty (e := 3) (enc := Value.int .i64) w)))
      replace hown := hid hown
      clear hg
      go_wp2_with fail
      go_ret
      exact ⟨_, rfl, hown.out, hx.out⟩
theorem greater_any (x y : Int) (w : World) : Calls Try.prog 44 #[.int .i64 x, .int .i64 y] w fun e w' => e = .returned (.int .i64 (max x y)) ∧ w = w' := by
  go_enter Try.func44, Try.ntmps44
  go_wp2
  · go_ret
    exact ⟨ret_int (by omega), rfl⟩
  · go_ret
    exact ⟨ret_int (by omega), rfl⟩
theorem lesser_any (x y : Int) (w : World) : Calls Try.prog 43 #[.int .i64 x, .int .i64 y] w fun e w' => e = .returned (.int .i64 (min x y)) ∧ w = w' := by
  go_enter Try.func43, Try.ntmps43
  go_wp2
  · go_ret
    exact ⟨ret_int (by omega), rfl⟩
  · go_ret
    exact ⟨ret_int (by omega), rfl⟩

/-- How far a join has come. -/
def zipped (h : Int → Int → Int) (xs ys : List Int) (k : Nat) : List Int := List.zipWith h (xs.take k) (ys.take k) ++ List.replicate (xs.length - k) 0
theorem zipped_zero (h : Int → Int → Int) (xs ys : List Int) : zipped h xs ys 0 = List.replicate xs.length 0 := by simp [zipped]
theorem zipped_length (h : Int → Int → Int) (xs ys : List Int) (k : Nat) (hk : k ≤ xs.length) (hl : xs.length ≤ ys.length) : (zipped h xs ys k).length = xs.length := by simp [zipped]; omega
theorem zipped_succ (h : Int → Int → Int) (xs ys : List Int) (k : Nat) (hk : k < xs.length) (hl : xs.length ≤ ys.length) : (zipped h xs ys k).set k (h (nth xs k) (nth ys k)) = zipped h xs ys (k + 1) := by
  unfold zipped
  rw [take_succ_nth xs k hk, take_succ_nth ys k (by omega), List.zipWith_append (by simp; omega), List.set_append_right _ _ (by simp; omega)]
  have e : k - (List.zipWith h (List.take k xs) (List.take k ys)).length = 0 := by simp; omega
  rw [e, show xs.length - k = (xs.length - (k + 1)) + 1 by omega, List.replicate_succ]
  simp
theorem zipped_all (h : Int → Int → Int) (xs ys : List Int) (hl : xs.length ≤ ys.length) : zipped h xs ys xs.length = List.zipWith h xs ys := by
  unfold zipped
  apply List.ext_getElem
  · simp
  · intro i h1 h2
    simp at h2
    rw [List.getElem_append_left (by simp; omega)]
    simp

set_option maxHeartbeats 800000 in
theorem zip_greater (v u : Value) (xs ys : List Int) (w : World) (hv : Ints w v xs) (hu : Ints w u ys) (hl : xs.length ≤ ys.length) (hlen : xs.length ≤ 2000000000000) :
    Calls Try.prog 46 #[v, u, .func (.func 44) #[] #[]] w (RetOwn w (List.zipWith max xs ys)) := by
  obtain ⟨a, cap, rfl, hl1, -, ha, hc⟩ := hv
  obtain ⟨a', cap', rfl, hl2, -, ha', hc'⟩ := hu
  replace hc := hid hc
  replace hc' := hid hc'
  replace ha := hid ha
  replace ha' := hid ha'
  go_enter Try.func46, Try.ntmps46
  go_wp2_with (at_make; refine make_row (enc := Value.int .i64) eltInt (by decide) (0 : Int) rfl rfl rfl _ _ rfl xs.length _ rfl rfl rfl hlen ?c1)
  case c1 =>
  intro w1 hown hx1 hin
  replace hown := hid hown
  go_wp2_with fail
  go_loopw [8, 14] (fun _ i wr => ∃ k : Nat, k ≤ xs.length ∧ i = .int .i64 k ∧ Ext w wr ∧ Hid (Own wr w.heap.size (.slice (some ⟨w.heap.size, 0, none⟩) xs.length xs.length) (zipped max xs ys k))) (fun _ i _ => xs.length - (intOf i).toNat)
  case atStart => exact ⟨0, Nat.zero_le _, rfl, hx1, hid (by rw [zipped_zero]; exact hown.out)⟩
  case round =>
    obtain ⟨k, hk, rfl, hx, hp⟩ := hrel
    clear hown hin
    have hk' := hid (zipped_length max xs ys k hk hl)
    by_cases hlt : k < xs.length
    · obtain ⟨b, off, rfl⟩ := ha.out.resolve_left (by omega)
      obtain ⟨b', off', rfl⟩ := ha'.out.resolve_left (by omega)
      have hlt' : k < ys.length := by omega
      have hcell0 := hc.out b off rfl k hlt
      have hcell0' := hc'.out b' off' rfl k hlt'
      have hb : b < w.heap.size := cell_lt hcell0
      have hb' : b' < w.heap.size := cell_lt hcell0'
      have hcell := hx.keeps hcell0
      have hcell' := hx.keeps hcell0'
      have hne : ¬ w.heap.size = b := by omega
      have hne' : ¬ w.heap.size = b' := by omega
      obtain ⟨ho1, ho2, -, -⟩ := OwnL.cell hp.out k (by rw [hk'.out]; exact hlt)
      clear hcell0 hcell0'
      go_wp2_with fail
      go_region_held3 (fun w' => w'.cell? ⟨b, off + k, none⟩ = some (.int .i64 (nth xs k)) ∧ w'.cell? ⟨b', off' + k, none⟩ = some (.int .i64 (nth ys k))) (go_keep)
        (first | (go_at_call 44; refine (greater_any _ _ _).mono ?_; rintro e w' ⟨rfl, rfl⟩))
      have hx2 := hid (Ext.drew' (Ext.setCell hx ⟨w.heap.size, k, none⟩ (Nat.le_refl _) (Value.int .i64 (max (nth xs k) (nth ys k)))))
      have hp2 := hid (OwnL.drew (OwnL.stored hp.out k (max (nth xs k) (nth ys k))))
      clear ho1 ho2 hp hcell hcell' hx
      go_wp2_with fail
      go_roundw
      case rel => exact ⟨k + 1, by omega, by go_num, hx2.out, by rw [← zipped_succ max xs ys k hlt hl]; exact hp2⟩
      case measure => simp [intOf]; omega
    · obtain rfl : k = xs.length := by omega
      go_wp2_with fail
      go_ret
      exact ⟨_, rfl, by rw [← zipped_all max xs ys hl]; exact hp.out, hx⟩
set_option maxHeartbeats 800000 in
theorem zip_lesser (v u : Value) (xs ys : List Int) (w : World) (hv : Ints w v xs) (hu : Ints w u ys) (hl : xs.length ≤ ys.length) (hlen : xs.length ≤ 2000000000000) :
    Calls Try.prog 46 #[v, u, .func (.func 43) #[] #[]] w (RetOwn w (List.zipWith min xs ys)) := by
  obtain ⟨a, cap, rfl, hl1, -, ha, hc⟩ := hv
  obtain ⟨a', cap', rfl, hl2, -, ha', hc'⟩ := hu
  replace hc := hid hc
  replace hc' := hid hc'
  replace ha := hid ha
  replace ha' := hid ha'
  go_enter Try.func46, Try.ntmps46
  go_wp2_with (at_make; refine make_row (enc := Value.int .i64) eltInt (by decide) (0 : Int) rfl rfl rfl _ _ rfl xs.length _ rfl rfl rfl hlen ?c1)
  case c1 =>
  intro w1 hown hx1 hin
  replace hown := hid hown
  go_wp2_with fail
  go_loopw [8, 14] (fun _ i wr => ∃ k : Nat, k ≤ xs.length ∧ i = .int .i64 k ∧ Ext w wr ∧ Hid (Own wr w.heap.size (.slice (some ⟨w.heap.size, 0, none⟩) xs.length xs.length) (zipped min xs ys k))) (fun _ i _ => xs.length - (intOf i).toNat)
  case atStart => exact ⟨0, Nat.zero_le _, rfl, hx1, hid (by rw [zipped_zero]; exact hown.out)⟩
  case round =>
    obtain ⟨k, hk, rfl, hx, hp⟩ := hrel
    clear hown hin
    have hk' := hid (zipped_length min xs ys k hk hl)
    by_cases hlt : k < xs.length
    · obtain ⟨b, off, rfl⟩ := ha.out.resolve_left (by omega)
      obtain ⟨b', off', rfl⟩ := ha'.out.resolve_left (by omega)
      have hlt' : k < ys.length := by omega
      have hcell0 := hc.out b off rfl k hlt
      have hcell0' := hc'.out b' off' rfl k hlt'
      have hb : b < w.heap.size := cell_lt hcell0
      have hb' : b' < w.heap.size := cell_lt hcell0'
      have hcell := hx.keeps hcell0
      have hcell' := hx.keeps hcell0'
      have hne : ¬ w.heap.size = b := by omega
      have hne' : ¬ w.heap.size = b' := by omega
      obtain ⟨ho1, ho2, -, -⟩ := OwnL.cell hp.out k (by rw [hk'.out]; exact hlt)
      clear hcell0 hcell0'
      go_wp2_with fail
      go_region_held3 (fun w' => w'.cell? ⟨b, off + k, none⟩ = some (.int .i64 (nth xs k)) ∧ w'.cell? ⟨b', off' + k, none⟩ = some (.int .i64 (nth ys k))) (go_keep)
        (first | (go_at_call 43; refine (lesser_any _ _ _).mono ?_; rintro e w' ⟨rfl, rfl⟩))
      have hx2 := hid (Ext.drew' (Ext.setCell hx ⟨w.heap.size, k, none⟩ (Nat.le_refl _) (Value.int .i64 (min (nth xs k) (nth ys k)))))
      have hp2 := hid (OwnL.drew (OwnL.stored hp.out k (min (nth xs k) (nth ys k))))
      clear ho1 ho2 hp hcell hcell' hx
      go_wp2_with fail
      go_roundw
      case rel => exact ⟨k + 1, by omega, by go_num, hx2.out, by rw [← zipped_succ min xs ys k hlt hl]; exact hp2⟩
      case measure => simp [intOf]; omega
    · obtain rfl : k = xs.length := by omega
      go_wp2_with fail
      go_ret
      exact ⟨_, rfl, by rw [← zipped_all min xs ys hl]; exact hp.out, hx⟩
/-! ### Join and Meet -/
def pairErr (xs ys : List Int) : Int := if timeCheck xs ≠ 0 then timeCheck xs else if timeCheck ys ≠ 0 then timeCheck ys else if xs.length ≠ ys.length then 3 else 0
/-- What Join and Meet hand back: the list (nil at an error), and the error. -/
def RetPair (h : Int → Int → Int) (w : World) (xs ys : List Int) (e : Ending) (w' : World) : Prop :=
  ∃ u, e = .returned (.tuple #[u, .int .i64 (pairErr xs ys)]) ∧ Own w' w.heap.size u (if pairErr xs ys = 0 then List.zipWith h xs ys else []) ∧ Ext w w'
theorem RetPair.err {h : Int → Int → Int} {w w' : World} {xs ys : List Int} (k : Int) (he : pairErr xs ys = k) (hk : k ≠ 0) (hx : Ext w w') : RetPair h w xs ys (.returned (.tuple #[.slice none 0 0, .int .i64 k])) w' := by
  subst he
  exact ⟨_, rfl, by rw [if_neg hk]; exact OwnL.nil _ _, hx⟩
theorem RetPair.ok {h : Int → Int → Int} {w w' : World} {xs ys : List Int} (u : Value) (he : pairErr xs ys = 0) (hu : Own w' w.heap.size u (List.zipWith h xs ys)) (hx : Ext w w') : RetPair h w xs ys (.returned (.tuple #[u, .int .i64 0])) w' := by
  exact ⟨_, by rw [he], by rw [if_pos he]; exact hu, hx⟩

theorem timeCheck_len {xs : List Int} (h : timeCheck xs = 0) : 1 ≤ xs.length ∧ xs.length ≤ 4 := by
  unfold timeCheck at h
  split at h
  · omega
  · omega
theorem timeCheck_zero {xs : List Int} : timeCheck xs = 0 ↔ (1 ≤ xs.length ∧ xs.length ≤ 4 ∧ ∀ i, i < xs.length → 0 ≤ nth xs i ∧ nth xs i ≤ 1048576) := by
  constructor
  · intro h
    have hl := timeCheck_len h
    refine ⟨hl.1, hl.2, fun i hi => ?_⟩
    have hb : xs.any badCoord = false := by
      unfold timeCheck at h
      rw [if_neg (by omega)] at h
      cases hb : xs.any badCoord
      · rfl
      · rw [hb] at h; simp at h
    have := List.any_eq_false.1 hb _ (nth_mem xs i hi)
    simp [badCoord] at this
    omega
  · rintro ⟨h1, h2, h3⟩
    refine timeCheck_ok xs (by omega) (by omega) ?_
    rw [List.any_eq_false]
    intro x hx
    obtain ⟨i, hi, rfl⟩ := mem_nth hx
    have := h3 i hi
    simp [badCoord]; omega
set_option maxHeartbeats 800000 in
theorem pair_greater (v u : Value) (xs ys : List Int) (w : World) (hv : Ints w v xs) (hu : Ints w u ys) :
    Calls Try.prog 42 #[v, u, .func (.func 44) #[] #[]] w (RetPair max w xs ys) := by
  have hv1 := hid hv
  have hu1 := hid hu
  obtain ⟨a, cap, rfl, -, -, -, -⟩ := hv
  obtain ⟨a', cap', rfl, -, -, -, -⟩ := hu
  have i0 : ∀ w, (Instr.index 63 (.agg #[.slice a xs.length cap, .slice a' ys.length cap']) (.int .i64 0)).run Try.prog w = .ok (.slice a xs.length cap) w := fun _ => by kernel_rfl
  have i1 : ∀ w, (Instr.index 63 (.agg #[.slice a xs.length cap, .slice a' ys.length cap']) (.int .i64 1)).run Try.prog w = .ok (.slice a' ys.length cap') w := fun _ => by kernel_rfl
  by_cases hx0 : timeCheck xs = 0
  case neg =>
    have h2 : (timeCheck xs != 0) = true := by rw [bne_iff_ne]; exact hx0
    have he := hid (show pairErr xs ys = timeCheck xs by simp [pairErr, hx0])
    replace hx0 := hid hx0
    go_enter Try.func42, Try.ntmps42
    go_wp2_with fail
    refine wp_loop_rounds 1 ?_
    rw [rounds_succ]
    go_wp2_with fail
    refine (check_any _ xs _ hv1.out).mono ?_; rintro e w' ⟨rfl, rfl⟩
    go_wp2_with fail
    go_ret2
    exact RetPair.err _ he.out hx0.out (Ext.refl _)
  have h2 : (timeCheck xs != 0) = false := by rw [bne_eq_false_iff_eq]; exact hx0
  replace hx0 := hid hx0
  by_cases hy0 : timeCheck ys = 0
  case neg =>
    have h3 : (timeCheck ys != 0) = true := by rw [bne_iff_ne]; exact hy0
    have he := hid (show pairErr xs ys = timeCheck ys by simp [pairErr, hx0.out, hy0])
    replace hy0 := hid hy0
    go_enter Try.func42, Try.ntmps42
    go_wp2_with fail
    refine wp_loop_rounds 2 ?_
    rw [rounds_succ]
    go_wp2_with fail
    refine (check_any _ xs _ hv1.out).mono ?_; rintro e w' ⟨rfl, rfl⟩
    go_wp2_with fail
    rw [rounds_succ]
    go_wp2_with fail
    refine (check_any _ ys _ hu1.out).mono ?_; rintro e w' ⟨rfl, rfl⟩
    go_wp2_with fail
    go_ret2
    exact RetPair.err _ he.out hy0.out (Ext.refl _)
  have h3 : (timeCheck ys != 0) = false := by rw [bne_eq_false_iff_eq]; exact hy0
  replace hy0 := hid hy0
  by_cases hlen : xs.length = ys.length
  case neg =>
    have h4 : ((xs.length : Int) != (ys.length : Int)) = true := by rw [bne_iff_ne]; omega
    have he := hid (show pairErr xs ys = 3 by simp [pairErr, hx0.out, hy0.out, hlen])
    go_enter Try.func42, Try.ntmps42
    go_wp2_with fail
    refine wp_loop_rounds 3 ?_
    rw [rounds_succ]
    go_wp2_with fail
    refine (check_any _ xs _ hv1.out).mono ?_; rintro e w' ⟨rfl, rfl⟩
    go_wp2_with fail
    rw [rounds_succ]
    go_wp2_with fail
    refine (check_any _ ys _ hu1.out).mono ?_; rintro e w' ⟨rfl, rfl⟩
    go_wp2_with fail
    rw [rounds_succ]
    go_wp2_with fail
    go_ret2
    exact RetPair.err _ he.out (by decide) (Ext.refl _)
  have h4 : ((xs.length : Int) != (ys.length : Int)) = false := by rw [bne_eq_false_iff_eq]; omega
  have he := hid (show pairErr xs ys = 0 by simp [pairErr, hx0.out, hy0.out, hlen])
  have hle := hid (show xs.length ≤ ys.length by omega)
  have hsm := hid (show xs.length ≤ 2000000000000 by have := timeCheck_len hx0.out; omega)
  replace hlen := hid hlen
  go_enter Try.func42, Try.ntmps42
  go_wp2_with fail
  refine wp_loop_rounds 3 ?_
  rw [rounds_succ]
  go_wp2_with fail
  refine (check_any _ xs _ hv1.out).mono ?_; rintro e w' ⟨rfl, rfl⟩
  go_wp2_with fail
  rw [rounds_succ]
  go_wp2_with fail
  refine (check_any _ ys _ hu1.out).mono ?_; rintro e w' ⟨rfl, rfl⟩
  go_wp2_with fail
  rw [rounds_succ]
  go_wp2_with fail
  refine (zip_greater _ _ xs ys _ hv1.out hu1.out hle.out hsm.out).mono ?_
  rintro e w' ⟨u, rfl, hu, hx⟩
  replace hu := hid hu
  replace hx := hid hx
  go_wp2_with fail
  go_ret2
  exact RetPair.ok u he.out hu.out hx.out
set_option maxHeartbeats 800000 in
theorem pair_lesser (v u : Value) (xs ys : List Int) (w : World) (hv : Ints w v xs) (hu : Ints w u ys) :
    Calls Try.prog 42 #[v, u, .func (.func 43) #[] #[]] w (RetPair min w xs ys) := by
  have hv1 := hid hv
  have hu1 := hid hu
  obtain ⟨a, cap, rfl, -, -, -, -⟩ := hv
  obtain ⟨a', cap', rfl, -, -, -, -⟩ := hu
  have i0 : ∀ w, (Instr.index 63 (.agg #[.slice a xs.length cap, .slice a' ys.length cap']) (.int .i64 0)).run Try.prog w = .ok (.slice a xs.length cap) w := fun _ => by kernel_rfl
  have i1 : ∀ w, (Instr.index 63 (.agg #[.slice a xs.length cap, .slice a' ys.length cap']) (.int .i64 1)).run Try.prog w = .ok (.slice a' ys.length cap') w := fun _ => by kernel_rfl
  by_cases hx0 : timeCheck xs = 0
  case neg =>
    have h2 : (timeCheck xs != 0) = true := by rw [bne_iff_ne]; exact hx0
    have he := hid (show pairErr xs ys = timeCheck xs by simp [pairErr, hx0])
    replace hx0 := hid hx0
    go_enter Try.func42, Try.ntmps42
    go_wp2_with fail
    refine wp_loop_rounds 1 ?_
    rw [rounds_succ]
    go_wp2_with fail
    refine (check_any _ xs _ hv1.out).mono ?_; rintro e w' ⟨rfl, rfl⟩
    go_wp2_with fail
    go_ret2
    exact RetPair.err _ he.out hx0.out (Ext.refl _)
  have h2 : (timeCheck xs != 0) = false := by rw [bne_eq_false_iff_eq]; exact hx0
  replace hx0 := hid hx0
  by_cases hy0 : timeCheck ys = 0
  case neg =>
    have h3 : (timeCheck ys != 0) = true := by rw [bne_iff_ne]; exact hy0
    have he := hid (show pairErr xs ys = timeCheck ys by simp [pairErr, hx0.out, hy0])
    replace hy0 := hid hy0
    go_enter Try.func42, Try.ntmps42
    go_wp2_with fail
    refine wp_loop_rounds 2 ?_
    rw [rounds_succ]
    go_wp2_with fail
    refine (check_any _ xs _ hv1.out).mono ?_; rintro e w' ⟨rfl, rfl⟩
    go_wp2_with fail
    rw [rounds_succ]
    go_wp2_with fail
    refine (check_any _ ys _ hu1.out).mono ?_; rintro e w' ⟨rfl, rfl⟩
    go_wp2_with fail
    go_ret2
    exact RetPair.err _ he.out hy0.out (Ext.refl _)
  have h3 : (timeCheck ys != 0) = false := by rw [bne_eq_false_iff_eq]; exact hy0
  replace hy0 := hid hy0
  by_cases hlen : xs.length = ys.length
  case neg =>
    have h4 : ((xs.length : Int) != (ys.length : Int)) = true := by rw [bne_iff_ne]; omega
    have he := hid (show pairErr xs ys = 3 by simp [pairErr, hx0.out, hy0.out, hlen])
    go_enter Try.func42, Try.ntmps42
    go_wp2_with fail
    refine wp_loop_rounds 3 ?_
    rw [rounds_succ]
    go_wp2_with fail
    refine (check_any _ xs _ hv1.out).mono ?_; rintro e w' ⟨rfl, rfl⟩
    go_wp2_with fail
    rw [rounds_succ]
    go_wp2_with fail
    refine (check_any _ ys _ hu1.out).mono ?_; rintro e w' ⟨rfl, rfl⟩
    go_wp2_with fail
    rw [rounds_succ]
    go_wp2_with fail
    go_ret2
    exact RetPair.err _ he.out (by decide) (Ext.refl _)
  have h4 : ((xs.length : Int) != (ys.length : Int)) = false := by rw [bne_eq_false_iff_eq]; omega
  have he := hid (show pairErr xs ys = 0 by simp [pairErr, hx0.out, hy0.out, hlen])
  have hle := hid (show xs.length ≤ ys.length by omega)
  have hsm := hid (show xs.length ≤ 2000000000000 by have := timeCheck_len hx0.out; omega)
  replace hlen := hid hlen
  go_enter Try.func42, Try.ntmps42
  go_wp2_with fail
  refine wp_loop_rounds 3 ?_
  rw [rounds_succ]
  go_wp2_with fail
  refine (check_any _ xs _ hv1.out).mono ?_; rintro e w' ⟨rfl, rfl⟩
  go_wp2_with fail
  rw [rounds_succ]
  go_wp2_with fail
  refine (check_any _ ys _ hu1.out).mono ?_; rintro e w' ⟨rfl, rfl⟩
  go_wp2_with fail
  rw [rounds_succ]
  go_wp2_with fail
  refine (zip_lesser _ _ xs ys _ hv1.out hu1.out hle.out hsm.out).mono ?_
  rintro e w' ⟨u, rfl, hu, hx⟩
  replace hu := hid hu
  replace hx := hid hx
  go_wp2_with fail
  go_ret2
  exact RetPair.ok u he.out hu.out hx.out
theorem tJoin_any (v u : Value) (xs ys : List Int) (w : World) (hv : Ints w v xs) (hu : Ints w u ys) :
    Calls Try.prog 30 #[v, u] w (RetPair max w xs ys) := by
  replace hv := hid hv
  replace hu := hid hu
  go_enter Try.func30, Try.ntmps30
  go_wp2_with fail
  refine (pair_greater _ _ xs ys _ hv.out hu.out).mono ?_
  rintro e w' ⟨u, rfl, hu, hx⟩
  replace hu := hid hu
  replace hx := hid hx
  go_wp2_with fail
  go_ret2
  exact ⟨u, rfl, hu.out, hx.out⟩
theorem tMeet_any (v u : Value) (xs ys : List Int) (w : World) (hv : Ints w v xs) (hu : Ints w u ys) :
    Calls Try.prog 29 #[v, u] w (RetPair min w xs ys) := by
  replace hv := hid hv
  replace hu := hid hu
  go_enter Try.func29, Try.ntmps29
  go_wp2_with fail
  refine (pair_lesser _ _ xs ys _ hv.out hu.out).mono ?_
  rintro e w' ⟨u, rfl, hu, hx⟩
  replace hu := hid hu
  replace hx := hid hx
  go_wp2_with fail
  go_ret2
  exact ⟨u, rfl, hu.out, hx.out⟩
/-! ### The law's own helpers -/
/-- Join or Meet, where both are times; nil else. -/
def joinedL (xs ys : List Int) (great : Bool) : List Int := if pairErr xs ys = 0 then (if great then List.zipWith max xs ys else List.zipWith min xs ys) else []
set_option maxHeartbeats 400000 in
theorem joined_any (v u : Value) (xs ys : List Int) (great : Bool) (w : World) (hv : Ints w v xs) (hu : Ints w u ys) :
    Calls Try.prog 16 #[v, u, .bool great] w (RetOwn w (joinedL xs ys great)) := by
  replace hv := hid hv
  replace hu := hid hu
  cases great
  · go_enter Try.func16, Try.ntmps16
    go_wp2_with fail
    refine (tMeet_any _ _ xs ys _ hv.out hu.out).mono ?_
    rintro e w' ⟨u, rfl, hr, hx⟩
    replace hr := hid hr
    replace hx := hid hx
    go_wp2_with fail
    go_ret
    exact ⟨u, rfl, hr.out, hx.out⟩
  · go_enter Try.func16, Try.ntmps16
    go_wp2_with fail
    refine (tMeet_any _ _ xs ys _ hv.out hu.out).mono ?_
    rintro e w' ⟨u, rfl, hr, hx⟩
    clear hr
    obtain ⟨g, rfl⟩ := Ext.out hx
    replace hx := hid hx
    go_wp2_with fail
    refine (tJoin_any _ _ xs ys _ (Rd.keeps hx.out hv.out) (Rd.keeps hx.out hu.out)).mono ?_
    rintro e w' ⟨u, rfl, hr, hx2⟩
    replace hr := hid hr
    replace hx2 := hid hx2
    go_wp2_with fail
    go_ret
    exact ⟨u, rfl, OwnL.mono hr.out hx.out.size, Ext.trans hx.out hx2.out⟩
end Go.Proofs.Ytjfpglmmhikhbaa
