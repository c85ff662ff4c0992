/- The contract of the program's Fits. -/
import Derived.Test.YtcieggaihelacaaMoa
set_option linter.unusedSimpArgs false
set_option linter.unusedVariables false
namespace Go.Proofs.Ytcieggaihelacaa
open Go.RowKit
attribute [local go_sem high] run_max_ints4
set_option maxRecDepth 100000 in
set_option maxHeartbeats 1000000 in
theorem fits_any (f g a x y : Int) (w : World) (ha : -9223372036854775808 ≤ a) (ha2 : a ≤ 9223372036854775807) (hx0 : -9223372036854775808 ≤ x) (hx1 : x ≤ 9223372036854775807) (hy0 : -9223372036854775808 ≤ y) (hy1 : y ≤ 9223372036854775807) :
    Calls Try.prog 26 #[.agg #[.int .i64 f, .int .i64 g, .int .i64 a], .int .i64 x, .int .i64 y] w fun e w' => e = .returned (.int .i64 (fitsE f g a x y)) ∧ Below w.heap.size w w' := by
  have hb := (Below.refl w.heap.size w).alloc (Nat.le_refl _) (Obj.cells #[.int .i64 f, .int .i64 g, .int .i64 a] 23)
  rcases fits_cases f g a x y with ⟨hc, e⟩ | ⟨hc, h1, e⟩ | ⟨hc, h1, h2, e⟩ | ⟨hc, h1, h2, e⟩
  · rw [e]; clear e
    have ht : (cornE f g a != 0) = true := by simpa using hc
    clear hc
    go_enter Try.func26, Try.ntmps26
    go_wp2_with (go_at_call 46; refine (Corner_any _ _ _ _ ha ha2).mono ?_; rintro e w1 ⟨rfl, hb'⟩; replace hb := below_nxt hb hb'; clear hb')
    go_ret
    exact ⟨rfl, hb⟩
  · rw [e]; clear e
    obtain ⟨nx, hnx⟩ : ∃ nx, wrap64 (-x) = nx := ⟨_, rfl⟩
    obtain ⟨ny, hny⟩ : ∃ ny, wrap64 (-y) = ny := ⟨_, rfl⟩
    have kx : nx = if x = -9223372036854775808 then x else -x := by
      rw [← hnx]; unfold wrap64; split <;> omega
    have ky : ny = if y = -9223372036854775808 then y else -y := by
      rw [← hny]; unfold wrap64; split <;> omega
    obtain ⟨M, hM⟩ : ∃ M, max (max (max x nx) y) ny = M := ⟨_, rfl⟩
    obtain ⟨m, hm⟩ : ∃ m, min x y = m := ⟨_, rfl⟩
    have key : 15 < M ∨ (¬ 15 < M ∧ m < -15) := by
      rw [← hM, ← hm]
      split at kx <;> split at ky <;> omega
    clear kx ky h1
    rcases key with key | ⟨key, key2⟩
    all_goals
      go_enter Try.func26, Try.ntmps26
      go_wp2_with (go_at_call 46; refine (Corner_any _ _ _ _ ha ha2).mono ?_; rw [hc]; rintro e w1 ⟨rfl, hb'⟩; replace hb := below_nxt hb hb'; clear hb')
      go_ret
      exact ⟨rfl, hb⟩
  · rw [e]; clear e
    obtain ⟨hf, hg, ha3, hX, hY⟩ := corn_ok hc
    obtain ⟨q0, q1, q2, q3⟩ := corner_bd hf hg ha3
    have hwh : wideS f ≤ 352 ∧ highS f ≤ 288 := by rcases fmt_cases f with ⟨_, h1, h2, _⟩ | ⟨_, h1, h2, _⟩ | ⟨_, _, h1, h2, _⟩ <;> omega
    generalize cornerX f g a = X at *
    generalize cornerY g a = Y at *
    obtain ⟨W, hW⟩ : ∃ W, wideS f = W := ⟨_, rfl⟩
    obtain ⟨H, hH⟩ : ∃ H, highS f = H := ⟨_, rfl⟩
    rw [hW] at q1 hwh h2
    rw [hH] at q3 hwh h2
    have HC := Lib.hid (And.intro hX (And.intro hY hc))
    have HS := Lib.hid (And.intro hW hH)
    clear hc hX hY hg ha3 hW hH hf
    have m1 : max (max (max x (-x)) y) (-y) ≤ 15 := by omega
    have m2 : -15 ≤ min x y := by omega
    have wx : wrap64 (-x) = -x := by unfold wrap64; omega
    have wy : wrap64 (-y) = -y := by unfold wrap64; omega
    by_cases hp : 0 ≤ X + x ∧ X + x < W ∧ 0 ≤ Y + y ∧ Y + y < H
    · have d1 : decide (0 ≤ X + x ∧ X + x < W ∧ 0 ≤ Y + y ∧ Y + y < H) = true := by simpa using hp
      have d2 : decide (0 ≤ X + x + 15 ∧ X + x + 15 < W ∧ 0 ≤ Y + y + 15 ∧ Y + y + 15 < H) = false := by simp only [decide_eq_false_iff_not]; omega
      clear hp h2
      go_enter Try.func26, Try.ntmps26
      go_wp2_with (first
        | (go_at_call 46; refine (Corner_any _ _ _ _ ha ha2).mono ?_; rw [HC.out.1, HC.out.2.1, HC.out.2.2]; rintro e w1 ⟨rfl, hb'⟩; obtain ⟨c0, c1, c2⟩ := spot_cells hb'; replace hb := below_nxt hb hb'; clear hb')
        | (go_at_call 37; refine (size_any _ _).mono ?_; rw [HS.out.1, HS.out.2]; rintro e w' ⟨rfl, rfl⟩)
        | (go_at_call 76; refine (in_any _ _ _ _ _ _).mono ?_; rw [d2]; rintro e w3 ⟨rfl, hb'⟩; replace hb := below_nxt hb hb'; clear hb')
        | (go_at_call 76; refine (in_any _ _ _ _ _ _).mono ?_; rw [d1]; rintro e w2 ⟨rfl, hb'⟩; obtain ⟨p0, p1, p2⟩ := spot_cells hb'; replace hb := below_nxt (hb.alloc hb.size (Obj.cells #[.slice none 0 0, .int .i64 W, .int .i64 H] 81)) hb'; clear hb'))
      go_ret
      exact ⟨rfl, hb⟩
    · have d1 : decide (0 ≤ X + x ∧ X + x < W ∧ 0 ≤ Y + y ∧ Y + y < H) = false := by simpa using hp
      clear hp h2
      go_enter Try.func26, Try.ntmps26
      go_wp2_with (first
        | (go_at_call 46; refine (Corner_any _ _ _ _ ha ha2).mono ?_; rw [HC.out.1, HC.out.2.1, HC.out.2.2]; rintro e w1 ⟨rfl, hb'⟩; obtain ⟨c0, c1, c2⟩ := spot_cells hb'; replace hb := below_nxt hb hb'; clear hb')
        | (go_at_call 37; refine (size_any _ _).mono ?_; rw [HS.out.1, HS.out.2]; rintro e w' ⟨rfl, rfl⟩)
        | (go_at_call 76; refine (in_any _ _ _ _ _ _).mono ?_; rw [d1]; rintro e w2 ⟨rfl, hb'⟩; obtain ⟨p0, p1, p2⟩ := spot_cells hb'; replace hb := below_nxt (hb.alloc hb.size (Obj.cells #[.slice none 0 0, .int .i64 W, .int .i64 H] 81)) hb'; clear hb'))
      go_ret
      exact ⟨rfl, hb⟩
  · rw [e]; clear e
    obtain ⟨hf, hg, ha3, hX, hY⟩ := corn_ok hc
    obtain ⟨q0, q1, q2, q3⟩ := corner_bd hf hg ha3
    have hwh : wideS f ≤ 352 ∧ highS f ≤ 288 := by rcases fmt_cases f with ⟨_, h1, h2, _⟩ | ⟨_, h1, h2, _⟩ | ⟨_, _, h1, h2, _⟩ <;> omega
    generalize cornerX f g a = X at *
    generalize cornerY g a = Y at *
    obtain ⟨W, hW⟩ : ∃ W, wideS f = W := ⟨_, rfl⟩
    obtain ⟨H, hH⟩ : ∃ H, highS f = H := ⟨_, rfl⟩
    rw [hW] at q1 hwh h2
    rw [hH] at q3 hwh h2
    have HC := Lib.hid (And.intro hX (And.intro hY hc))
    have HS := Lib.hid (And.intro hW hH)
    clear hc hX hY hg ha3 hW hH hf
    have m1 : max (max (max x (-x)) y) (-y) ≤ 15 := by omega
    have m2 : -15 ≤ min x y := by omega
    have wx : wrap64 (-x) = -x := by unfold wrap64; omega
    have wy : wrap64 (-y) = -y := by unfold wrap64; omega
    have d1 : decide (0 ≤ X + x ∧ X + x < W ∧ 0 ≤ Y + y ∧ Y + y < H) = true := by simp only [decide_eq_true_eq]; omega
    have d2 : decide (0 ≤ X + x + 15 ∧ X + x + 15 < W ∧ 0 ≤ Y + y + 15 ∧ Y + y + 15 < H) = true := by simp only [decide_eq_true_eq]; omega
    clear h2
    go_enter Try.func26, Try.ntmps26
    go_wp2_with (first
      | (go_at_call 46; refine (Corner_any _ _ _ _ ha ha2).mono ?_; rw [HC.out.1, HC.out.2.1, HC.out.2.2]; rintro e w1 ⟨rfl, hb'⟩; obtain ⟨c0, c1, c2⟩ := spot_cells hb'; replace hb := below_nxt hb hb'; clear hb')
      | (go_at_call 37; refine (size_any _ _).mono ?_; rw [HS.out.1, HS.out.2]; rintro e w' ⟨rfl, rfl⟩)
      | (go_at_call 76; refine (in_any _ _ _ _ _ _).mono ?_; rw [d2]; rintro e w3 ⟨rfl, hb'⟩; replace hb := below_nxt hb hb'; clear hb')
      | (go_at_call 76; refine (in_any _ _ _ _ _ _).mono ?_; rw [d1]; rintro e w2 ⟨rfl, hb'⟩; obtain ⟨p0, p1, p2⟩ := spot_cells hb'; replace hb := below_nxt (hb.alloc hb.size (Obj.cells #[.slice none 0 0, .int .i64 W, .int .i64 H] 81)) hb'; clear hb'))
    go_ret
    exact ⟨rfl, hb⟩
end Go.Proofs.Ytcieggaihelacaa
