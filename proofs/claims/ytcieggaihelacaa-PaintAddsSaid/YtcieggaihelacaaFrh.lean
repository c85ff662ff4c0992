/- The contract of the document's Place; the plain functions that tell a block's place. -/
import Derived.Test.YtcieggaihelacaaFrg
set_option linter.unusedSimpArgs false
set_option linter.unusedVariables false
namespace Go.Proofs.Ytcieggaihelacaa
open Go.RowKit
def plcV (f X Y b : Int) : Int := if b ≤ 4 then (Y + (b - 1) / 2 * 8) * wideS f + X + (b - 1) % 2 * 8 else wideS f * highS f + (b - 5) * (wideS f * highS f / 4) + Y / 2 * (wideS f / 2) + X / 2
def plcS (f b : Int) : Int := if b ≤ 4 then wideS f else wideS f / 2
def plE (f g a b : Int) : Int := if cornE f g a = 0 then (if 1 ≤ b ∧ b ≤ 6 then 0 else 3) else cornE f g a
def plA (f g a b : Int) : Int := if plE f g a b = 0 then plcV f (cornerX f g a) (cornerY g a) b else 0
def plS (f g a b : Int) : Int := if plE f g a b = 0 then plcS f b else 0
theorem corner_bd {f g a : Int} (h : f = 0 ∨ f = 1) (hg : g ∈ groupsS f) (ha : 1 ≤ a ∧ a ≤ 33) : 0 ≤ cornerX f g a ∧ cornerX f g a + 16 ≤ wideS f ∧ 0 ≤ cornerY g a ∧ cornerY g a + 16 ≤ highS f := by
  obtain ⟨g1, g2⟩ := groups_bd hg
  unfold cornerX cornerY
  rcases h with rfl | rfl
  · have hc : g = 1 ∨ g = 3 ∨ g = 5 := by simpa [groupsS] using hg
    have w : wideS 0 = 176 := rfl
    have h : highS 0 = 144 := rfl
    rw [w, h]
    omega
  · have w : wideS 1 = 352 := rfl
    have h : highS 1 = 288 := rfl
    rw [w, h]
    omega
theorem pl_cases (f g a b : Int) :
    (plE f g a b ≠ 0 ∧ cornE f g a ≠ 0 ∧ plE f g a b = cornE f g a ∧ plA f g a b = 0 ∧ plS f g a b = 0) ∨
    (cornE f g a = 0 ∧ ¬ (1 ≤ b ∧ b ≤ 6) ∧ plE f g a b = 3 ∧ plA f g a b = 0 ∧ plS f g a b = 0) ∨
    (cornE f g a = 0 ∧ (1 ≤ b ∧ b ≤ 6) ∧ plE f g a b = 0 ∧ plA f g a b = plcV f (cornerX f g a) (cornerY g a) b ∧ plS f g a b = plcS f b) := by
  unfold plA plS
  by_cases h1 : cornE f g a = 0
  · by_cases h2 : 1 ≤ b ∧ b ≤ 6
    · have e : plE f g a b = 0 := by unfold plE; rw [if_pos h1, if_pos h2]
      rw [e]; exact Or.inr (Or.inr ⟨h1, h2, rfl, rfl, rfl⟩)
    · have e : plE f g a b = 3 := by unfold plE; rw [if_pos h1, if_neg h2]
      rw [e]; exact Or.inr (Or.inl ⟨h1, h2, rfl, rfl, rfl⟩)
  · have e : plE f g a b = cornE f g a := by unfold plE; rw [if_neg h1]
    rw [e, if_neg h1, if_neg h1]; exact Or.inl ⟨h1, h1, rfl, rfl, rfl⟩
theorem corn_ok {f g a : Int} (h : cornE f g a = 0) : (f = 0 ∨ f = 1) ∧ g ∈ groupsS f ∧ (1 ≤ a ∧ a ≤ 33) ∧ cornX f g a = cornerX f g a ∧ cornY f g a = cornerY g a := by
  rcases corn_cases f g a with ⟨_, e, _⟩ | ⟨_, _, e, _⟩ | ⟨_, _, _, e, _⟩ | ⟨h1, h2, h3, e, h4, h5⟩
  · rw [h] at e; cases e
  · rw [h] at e; cases e
  · rw [h] at e; cases e
  · exact ⟨h1, h2, h3, h4, h5⟩
set_option maxRecDepth 100000 in
set_option maxHeartbeats 1000000 in
theorem rPlace_any (f g a b : Int) (w : World) (ha : -9223372036854775808 ≤ a) (ha2 : a ≤ 9223372036854775807) :
    Calls Try.prog 49 #[.int .i64 f, .int .i64 g, .int .i64 a, .int .i64 b] w fun e w' => e = .returned (.tuple #[.int .i64 (plA f g a b), .int .i64 (plS f g a b), .int .i64 (plE f g a b)]) ∧ Below w.heap.size w w' := by
  rcases pl_cases f g a b with ⟨_, hc, e1, e2, e3⟩ | ⟨hc, hb, e1, e2, e3⟩ | ⟨hc, hb, e1, e2, e3⟩
  · rw [e1, e2, e3]; clear e1 e2 e3
    have ht : (cornE f g a != 0) = true := by simpa using hc
    clear hc
    go_enter Try.func49, Try.ntmps49
    go_wp2_with (go_at_call 47; refine (rCorner_any _ _ _ _ ha ha2).mono ?_; rintro e w1 ⟨rfl, hb⟩)
    exact bodyPost_ret (by simp [results, Try.results49, go_sem]) rfl ⟨rfl, hb⟩
  · rw [e1, e2, e3]; clear e1 e2 e3
    by_cases h1 : b < 1
    · clear hb
      go_enter Try.func49, Try.ntmps49
      go_wp2_with (first
        | (go_at_call 47; refine (rCorner_any _ _ _ _ ha ha2).mono ?_; rintro e w1 ⟨rfl, hb⟩)
        | (go_at_call 38; refine (rsize_any _ _).mono ?_; rintro e w2 ⟨rfl, rfl⟩))
      exact bodyPost_ret (by simp [results, Try.results49, go_sem]) rfl ⟨rfl, hb⟩
    · have h2 : 6 < b := by omega
      clear hb
      go_enter Try.func49, Try.ntmps49
      go_wp2_with (first
        | (go_at_call 47; refine (rCorner_any _ _ _ _ ha ha2).mono ?_; rintro e w1 ⟨rfl, hb⟩)
        | (go_at_call 38; refine (rsize_any _ _).mono ?_; rintro e w2 ⟨rfl, rfl⟩))
      exact bodyPost_ret (by simp [results, Try.results49, go_sem]) rfl ⟨rfl, hb⟩
  · rw [e1, e2, e3]; clear e1 e2 e3
    obtain ⟨hf, hg, ha3, hX, hY⟩ := corn_ok hc
    obtain ⟨x0, x1, y0, y1⟩ := corner_bd hf hg ha3
    obtain ⟨b1, b2⟩ := hb
    generalize cornerX f g a = X at *
    generalize cornerY g a = Y at *
    clear ha3 hg
    by_cases h4 : b ≤ 4
    · have hV : plcV f X Y b = (Y + (b - 1) / 2 * 8) * wideS f + X + (b - 1) % 2 * 8 := by unfold plcV; rw [if_pos h4]
      have hS : plcS f b = wideS f := by unfold plcS; rw [if_pos h4]
      rw [hV, hS]; clear hV hS
      rcases hf with rfl | rfl
      · have hw : wideS 0 = 176 := rfl
        have hh : highS 0 = 144 := rfl
        rw [hw] at x1; rw [hh] at y1; simp only [hw]
        go_enter Try.func49, Try.ntmps49
        go_wp2_with (first
          | (go_at_call 47; refine (rCorner_any _ _ _ _ ha ha2).mono ?_; rintro e w1 ⟨rfl, hb⟩)
          | (go_at_call 38; refine (rsize_any _ _).mono ?_; rintro e w2 ⟨rfl, rfl⟩))
        exact bodyPost_ret (by simp [results, Try.results49, go_sem]) rfl ⟨rfl, hb⟩
      · have hw : wideS 1 = 352 := rfl
        have hh : highS 1 = 288 := rfl
        rw [hw] at x1; rw [hh] at y1; simp only [hw]
        go_enter Try.func49, Try.ntmps49
        go_wp2_with (first
          | (go_at_call 47; refine (rCorner_any _ _ _ _ ha ha2).mono ?_; rintro e w1 ⟨rfl, hb⟩)
          | (go_at_call 38; refine (rsize_any _ _).mono ?_; rintro e w2 ⟨rfl, rfl⟩))
        exact bodyPost_ret (by simp [results, Try.results49, go_sem]) rfl ⟨rfl, hb⟩
    · have hV : plcV f X Y b = wideS f * highS f + (b - 5) * (wideS f * highS f / 4) + Y / 2 * (wideS f / 2) + X / 2 := by unfold plcV; rw [if_neg h4]
      have hS : plcS f b = wideS f / 2 := by unfold plcS; rw [if_neg h4]
      rw [hV, hS]; clear hV hS
      rcases hf with rfl | rfl
      · have hw : wideS 0 = 176 := rfl
        have hh : highS 0 = 144 := rfl
        rw [hw] at x1; rw [hh] at y1; simp only [hw, hh]
        go_enter Try.func49, Try.ntmps49
        go_wp2_with (first
          | (go_at_call 47; refine (rCorner_any _ _ _ _ ha ha2).mono ?_; rintro e w1 ⟨rfl, hb⟩)
          | (go_at_call 38; refine (rsize_any _ _).mono ?_; rintro e w2 ⟨rfl, rfl⟩))
        exact bodyPost_ret (by simp [results, Try.results49, go_sem]) rfl ⟨rfl, hb⟩
      · have hw : wideS 1 = 352 := rfl
        have hh : highS 1 = 288 := rfl
        rw [hw] at x1; rw [hh] at y1; simp only [hw, hh]
        go_enter Try.func49, Try.ntmps49
        go_wp2_with (first
          | (go_at_call 47; refine (rCorner_any _ _ _ _ ha ha2).mono ?_; rintro e w1 ⟨rfl, hb⟩)
          | (go_at_call 38; refine (rsize_any _ _).mono ?_; rintro e w2 ⟨rfl, rfl⟩))
        exact bodyPost_ret (by simp [results, Try.results49, go_sem]) rfl ⟨rfl, hb⟩
end Go.Proofs.Ytcieggaihelacaa
