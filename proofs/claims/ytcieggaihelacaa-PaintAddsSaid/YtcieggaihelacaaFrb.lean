/- The contracts of slices.Index, slices.Contains at []int, SameInts, OverInts, Pick. -/
import Derived.Test.YtcieggaihelacaaFra
set_option linter.unusedSimpArgs false
set_option linter.unusedVariables false
namespace Go.Proofs.Ytcieggaihelacaa
open Go.RowKit
theorem index_any (v : Value) (x : Int) (xs : List Int) (w : World) (h : Rd .i64 w v xs) :
    Calls Try.prog 84 #[v, .int .i64 x] w fun e w' => e = .returned (.int .i64 (idxI x xs)) ∧ w = w' := by
  rcases h with ⟨rfl, rfl⟩ | ⟨b, off, cap, rfl, _, hcap, hlen, hc⟩
  · have hI : idxI x [] = -1 := rfl
    rw [hI]; clear hI
    go_enter Try.func84, Try.ntmps84
    go_wp2
    go_loop [8] (fun i => i = .int .i64 0) (fun _ => 0)
    case atStart => rfl
    case round =>
      subst hrel
      go_wp2
      go_ret
      exact ⟨rfl, rfl⟩
  · go_enter Try.func84, Try.ntmps84
    go_wp2
    go_loop [5, 8] (fun _ i => ∃ k : Nat, k ≤ xs.length ∧ i = .int .i64 k ∧ ∀ j, j < k → xs[j]?.getD 0 ≠ x) (fun _ i => xs.length - (intOf i).toNat)
    case atStart => exact ⟨0, Nat.zero_le _, rfl, fun j hj => by omega⟩
    case round =>
      obtain ⟨k, hk, rfl, hn⟩ := hrel
      have HN := Lib.hid hn
      clear hn
      by_cases hlt : k < xs.length
      · have hck := hc k hlt
        clear hc
        generalize hy : xs[k]?.getD 0 = y at hck
        have HY := Lib.hid hy
        clear hy
        by_cases hx : x = y
        · have HI := Lib.hid (idxI_found hlt HN.out (HY.out.trans hx.symm))
          subst hx
          go_wp2
          go_ret
          exact ⟨ret_int HI.out.symm, rfl⟩
        · have hx' : (x == y) = false := by simpa using hx
          have HX := Lib.hid hx
          clear hx
          go_wp2
          go_round
          case rel =>
            refine ⟨k + 1, by omega, by go_num, fun j hj => ?_⟩
            by_cases e : j = k
            · subst e; rw [HY.out]; exact fun e => HX.out e.symm
            · exact HN.out j (by omega)
          case measure => simp [intOf]; omega
      · have e : k = xs.length := by omega
        subst e
        go_wp2
        go_ret
        exact ⟨ret_int (idxI_none HN.out).symm, rfl⟩
theorem contains_any (v : Value) (x : Int) (xs : List Int) (w : World) (h : Rd .i64 w v xs) :
    Calls Try.prog 85 #[v, .int .i64 x] w fun e w' => e = .returned (.bool (decide (0 ≤ idxI x xs))) ∧ w = w' := by
  go_enter Try.func85, Try.ntmps85
  go_wp2_with (go_at_call 84; refine (index_any _ _ _ _ h).mono ?_; rintro e w' ⟨rfl, rfl⟩)
  go_ret
  exact ⟨rfl, rfl⟩
/-- Two lists of numbers, compared. -/
theorem sameInts_any (v u : Value) (xs ys : List Int) (w : World) (h : Rd .i64 w v xs) (g : Rd .i64 w u ys) :
    Calls Try.prog 43 #[v, u] w fun e w' => e = .returned (.bool (decide (xs = ys))) ∧ ∃ n, w' = w.drewN n := by
  have hl := h.len
  have gl := g.len
  by_cases hlen : xs.length = ys.length
  · rcases h with ⟨rfl, rfl⟩ | ⟨b, off, cap, rfl, _, hcap, hlen1, hc⟩
    · obtain rfl : ys = [] := List.eq_nil_of_length_eq_zero hlen.symm
      obtain ⟨a, c, rfl⟩ := g.form
      go_enter Try.func43, Try.ntmps43
      go_wp2
      go_loop [5] (fun i => i = .int .i64 0) (fun _ => 0)
      case atStart => rfl
      case round =>
        subst hrel
        go_wp2
        go_ret
        exact ⟨rfl, 0, rfl⟩
    · rcases g with ⟨rfl, rfl⟩ | ⟨b2, off2, cap2, rfl, _, hcap2, hlen2, hc2⟩
      · obtain rfl : xs = [] := List.eq_nil_of_length_eq_zero hlen
        go_enter Try.func43, Try.ntmps43
        go_wp2
        go_loop [5] (fun i => i = .int .i64 0) (fun _ => 0)
        case atStart => rfl
        case round =>
          subst hrel
          go_wp2
          go_ret
          exact ⟨rfl, 0, rfl⟩
      · have ht : ((xs.length : Int) != (ys.length : Int)) = false := by simp [hlen]
        have HL := Lib.hid hlen
        clear hlen
        go_enter Try.func43, Try.ntmps43
        go_wp2
        go_loopw [5] (fun i wr => ∃ k : Nat, k ≤ xs.length ∧ i = .int .i64 k ∧ (∀ j, j < k → xs[j]?.getD 0 = ys[j]?.getD 0) ∧ ∃ n, wr = w.drewN n) (fun i _ => xs.length - (intOf i).toNat)
        case atStart => exact ⟨0, Nat.zero_le _, rfl, fun j hj => by omega, 0, rfl⟩
        case round =>
          obtain ⟨k, hk, rfl, hn, n0, rfl⟩ := hrel
          have HN := Lib.hid hn
          clear hn
          by_cases hlt : k < xs.length
          · have hlt2 : k < ys.length := by rw [← HL.out]; exact hlt
            have hck := hc k hlt
            have hck2 := hc2 k hlt2
            clear hc hc2
            have t1 : (k : Int) < (xs.length : Int) := by omega
            have t2 : (k : Int) < (ys.length : Int) := by omega
            generalize hy : xs[k]?.getD 0 = y at hck
            generalize hz : ys[k]?.getD 0 = z at hck2
            have HY := Lib.hid hy
            have HZ := Lib.hid hz
            clear hy hz
            by_cases hx : y = z
            · subst hx
              go_wp2
              go_quiet (fail)
              go_wp2
              go_roundw
              case rel =>
                refine ⟨k + 1, by omega, by go_num, fun j hj => ?_, _, rfl⟩
                by_cases e : j = k
                · subst e; rw [HY.out, HZ.out]
                · exact HN.out j (by omega)
              case measure => simp [intOf]; omega
            · have hx' : (y != z) = true := by simpa using hx
              have HX := Lib.hid hx
              clear hx
              go_wp2
              go_quiet (fail)
              go_wp2
              go_ret
              have he : ¬ xs = ys := fun e => HX.out (by rw [← HY.out, ← HZ.out, e])
              refine ⟨?_, _, World.drewN_drewN _ _ _⟩
              rw [decide_eq_false he]
              rfl
          · have e : k = xs.length := by omega
            subst e
            clear hc hc2
            go_wp2
            go_ret
            have he : xs = ys := by
              refine List.ext_getElem HL.out (fun j h1 h2 => ?_)
              have := HN.out j h1
              simpa [h1, h2] using this
            refine ⟨?_, _, rfl⟩
            rw [decide_eq_true he]
            rfl
  · obtain ⟨a, c, rfl⟩ := h.form
    obtain ⟨a2, c2, rfl⟩ := g.form
    have ht : ((xs.length : Int) != (ys.length : Int)) = true := by simp; omega
    have hd : decide (xs = ys) = false := by rw [decide_eq_false]; intro e; exact hlen (by rw [e])
    rw [hd]; clear hd hlen h g
    go_enter Try.func43, Try.ntmps43
    go_wp2
    go_ret
    exact ⟨rfl, 0, rfl⟩
theorem pick_any (x n : Int) (w : World) (h1 : -9223372036854775808 ≤ x) (h2 : x ≤ 9223372036854775807) (hn : 0 < n) (hn2 : n ≤ 1000000) :
    Calls Try.prog 21 #[.int .i64 x, .int .i64 n] w fun e w' => e = .returned (.int .i64 (x % n)) ∧ w = w' := by
  have hm : x.tmod n = if x % n = 0 ∨ 0 ≤ x then x % n else x % n - n := by
    rw [Int.tmod_eq_emod]
    split <;> split <;> rename_i a b <;> simp_all <;> omega
  have hb1 := Int.emod_nonneg x (show n ≠ 0 by omega)
  have hb2 := Int.emod_lt_of_pos x hn
  by_cases hx : x % n = 0 ∨ 0 ≤ x
  · rw [if_pos hx] at hm
    have HM := Lib.hid hm
    have t1 : decide (x.tmod n < 0) = false := by rw [hm]; simp; omega
    clear hm hx
    go_enter Try.func21, Try.ntmps21
    go_wp2
    all_goals go_ret
    all_goals exact ⟨ret_int HM.out, rfl⟩
  · rw [if_neg hx] at hm
    have HM := Lib.hid hm
    have t1 : decide (x.tmod n < 0) = true := by rw [hm]; simp; omega
    clear hm hx
    go_enter Try.func21, Try.ntmps21
    go_wp2
    all_goals go_ret
    all_goals (refine ⟨ret_int ?_, rfl⟩; rw [HM.out]; simp [wrap64]; omega)
end Go.Proofs.Ytcieggaihelacaa
