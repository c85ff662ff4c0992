/- The contracts of frame.Corner and of the document's Corner and Place. -/
import Derived.Test.YtcieggaihelacaaFrf
set_option linter.unusedSimpArgs false
set_option linter.unusedVariables false
namespace Go.Proofs.Ytcieggaihelacaa
open Go.RowKit
def cornE (f g a : Int) : Int := if f = 0 ∨ f = 1 then (if g ∈ groupsS f then (if 1 ≤ a ∧ a ≤ 33 then 0 else 13) else 8) else 3
def cornX (f g a : Int) : Int := if cornE f g a = 0 then cornerX f g a else 0
def cornY (f g a : Int) : Int := if cornE f g a = 0 then cornerY g a else 0
theorem corn_cases (f g a : Int) :
    (¬ (f = 0 ∨ f = 1) ∧ cornE f g a = 3 ∧ cornX f g a = 0 ∧ cornY f g a = 0) ∨
    ((f = 0 ∨ f = 1) ∧ g ∉ groupsS f ∧ cornE f g a = 8 ∧ cornX f g a = 0 ∧ cornY f g a = 0) ∨
    ((f = 0 ∨ f = 1) ∧ g ∈ groupsS f ∧ ¬ (1 ≤ a ∧ a ≤ 33) ∧ cornE f g a = 13 ∧ cornX f g a = 0 ∧ cornY f g a = 0) ∨
    ((f = 0 ∨ f = 1) ∧ g ∈ groupsS f ∧ (1 ≤ a ∧ a ≤ 33) ∧ cornE f g a = 0 ∧ cornX f g a = cornerX f g a ∧ cornY f g a = cornerY g a) := by
  unfold cornX cornY
  by_cases h1 : f = 0 ∨ f = 1
  · by_cases h2 : g ∈ groupsS f
    · by_cases h3 : 1 ≤ a ∧ a ≤ 33
      · have e : cornE f g a = 0 := by unfold cornE; rw [if_pos h1, if_pos h2, if_pos h3]
        rw [e]; exact Or.inr (Or.inr (Or.inr ⟨h1, h2, h3, rfl, rfl, rfl⟩))
      · have e : cornE f g a = 13 := by unfold cornE; rw [if_pos h1, if_pos h2, if_neg h3]
        rw [e]; exact Or.inr (Or.inr (Or.inl ⟨h1, h2, h3, rfl, rfl, rfl⟩))
    · have e : cornE f g a = 8 := by unfold cornE; rw [if_pos h1, if_neg h2]
      rw [e]; exact Or.inr (Or.inl ⟨h1, h2, rfl, rfl, rfl⟩)
  · have e : cornE f g a = 3 := by unfold cornE; rw [if_neg h1]
    rw [e]; exact Or.inl ⟨h1, rfl, rfl, rfl⟩
set_option maxRecDepth 100000 in
set_option maxHeartbeats 1000000 in
theorem Corner_any (f g a : Int) (w : World) (ha : -9223372036854775808 ≤ a) (ha2 : a ≤ 9223372036854775807) :
    Calls Try.prog 46 #[.int .i64 f, .int .i64 g, .int .i64 a] w fun e w' => e = .returned (.tuple #[.int .i64 (cornX f g a), .int .i64 (cornY f g a), .int .i64 (cornE f g a)]) ∧ Below w.heap.size w w' := by
  have hl := gs_len f
  rcases corn_cases f g a with ⟨h, e1, e2, e3⟩ | ⟨h, hg, e1, e2, e3⟩ | ⟨h, hg, h3, e1, e2, e3⟩ | ⟨h, hg, h3, e1, e2, e3⟩
  · rw [e1, e2, e3]; clear e1 e2 e3
    obtain ⟨_, h2, _⟩ := fmt_no h
    clear h
    go_enter Try.func46, Try.ntmps46
    go_wp2_with (go_at_call 39; refine (Groups_any _ _).mono ?_; rintro e w1 ⟨⟨v, rfl, hown⟩, hb⟩)
    exact bodyPost_ret (by simp [results, Try.results46, go_sem]) rfl ⟨rfl, hb⟩
  · rw [e1, e2, e3]; clear e1 e2 e3
    obtain ⟨_, h2⟩ := fmt_yes h
    rw [← idx_mem] at hg
    have ht : decide (0 ≤ idxI g (groupsS f)) = false := by simpa using hg
    clear h hg
    go_enter Try.func46, Try.ntmps46
    go_wp2_with (first
      | (go_at_call 39; refine (Groups_any _ _).mono ?_; rintro e w1 ⟨⟨v, rfl, hown⟩, hb⟩; have hrd := Rd.of_owns hown (by omega))
      | (go_at_call 85; refine (contains_any _ _ _ _ hrd).mono ?_; rintro e w2 ⟨rfl, rfl⟩))
    exact bodyPost_ret (by simp [results, Try.results46, go_sem]) rfl ⟨rfl, hb⟩
  · rw [e1, e2, e3]; clear e1 e2 e3
    obtain ⟨_, h2⟩ := fmt_yes h
    rw [← idx_mem] at hg
    have ht : decide (0 ≤ idxI g (groupsS f)) = true := by simpa using hg
    clear h hg
    by_cases h5 : a < 1
    · clear h3
      go_enter Try.func46, Try.ntmps46
      go_wp2_with (first
        | (go_at_call 39; refine (Groups_any _ _).mono ?_; rintro e w1 ⟨⟨v, rfl, hown⟩, hb⟩; have hrd := Rd.of_owns hown (by omega))
        | (go_at_call 85; refine (contains_any _ _ _ _ hrd).mono ?_; rintro e w2 ⟨rfl, rfl⟩))
      exact bodyPost_ret (by simp [results, Try.results46, go_sem]) rfl ⟨rfl, hb⟩
    · have h6 : 33 < a := by omega
      clear h3
      go_enter Try.func46, Try.ntmps46
      go_wp2_with (first
        | (go_at_call 39; refine (Groups_any _ _).mono ?_; rintro e w1 ⟨⟨v, rfl, hown⟩, hb⟩; have hrd := Rd.of_owns hown (by omega))
        | (go_at_call 85; refine (contains_any _ _ _ _ hrd).mono ?_; rintro e w2 ⟨rfl, rfl⟩))
      exact bodyPost_ret (by simp [results, Try.results46, go_sem]) rfl ⟨rfl, hb⟩
  · rw [e1, e2, e3]; clear e1 e2 e3
    obtain ⟨_, h2⟩ := fmt_yes h
    obtain ⟨g1, g2⟩ := groups_bd hg
    rw [← idx_mem] at hg
    have ht : decide (0 ≤ idxI g (groupsS f)) = true := by simpa using hg
    obtain ⟨h3, h4⟩ := h3
    have HF := Lib.hid h
    clear h hg
    go_enter Try.func46, Try.ntmps46
    go_wp2_with (first
      | (go_at_call 39; refine (Groups_any _ _).mono ?_; rintro e w1 ⟨⟨v, rfl, hown⟩, hb⟩; have hrd := Rd.of_owns hown (by omega))
      | (go_at_call 85; refine (contains_any _ _ _ _ hrd).mono ?_; rintro e w2 ⟨rfl, rfl⟩)
      | (go_at_call 86; refine (fcorner_any f g a _ HF.out g1 g2 h3 h4).mono ?_; rintro e w2 ⟨rfl, rfl⟩))
    exact bodyPost_ret (by simp [results, Try.results46, go_sem]) rfl ⟨rfl, hb⟩
theorem next_mem {f g : Int} (h : f = 0 ∨ f = 1) : (g = 0 ∧ nextE f g = 0 ∧ g ∉ groupsS f) ∨ (g ≠ 0 ∧ nextE f g = 0 ∧ g ∈ groupsS f) ∨ (g ≠ 0 ∧ nextE f g = 8 ∧ g ∉ groupsS f) := by
  by_cases h0 : g = 0
  · subst h0
    left
    rcases h with rfl | rfl <;> decide
  · rcases rnext_tells f g h h0 with ⟨a, _, b, _⟩ | ⟨a, b, _⟩
    · exact Or.inr (Or.inr ⟨h0, a, b⟩)
    · exact Or.inr (Or.inl ⟨h0, a, b⟩)
set_option maxRecDepth 100000 in
set_option maxHeartbeats 1000000 in
theorem rCorner_any (f g a : Int) (w : World) (ha : -9223372036854775808 ≤ a) (ha2 : a ≤ 9223372036854775807) :
    Calls Try.prog 47 #[.int .i64 f, .int .i64 g, .int .i64 a] w fun e w' => e = .returned (.tuple #[.int .i64 (cornX f g a), .int .i64 (cornY f g a), .int .i64 (cornE f g a)]) ∧ Below w.heap.size w w' := by
  rcases corn_cases f g a with ⟨h, e1, e2, e3⟩ | ⟨h, hg, e1, e2, e3⟩ | ⟨h, hg, h3, e1, e2, e3⟩ | ⟨h, hg, h3, e1, e2, e3⟩
  · rw [e1, e2, e3]; clear e1 e2 e3
    have hE : nextE f g = 3 := by unfold nextE; rw [if_neg (by omega), if_neg (by omega)]
    clear h
    go_enter Try.func47, Try.ntmps47
    go_wp2_with (go_at_call 42; refine (rNext_any _ _ _).mono ?_; rintro e w1 ⟨rfl, hb⟩)
    exact bodyPost_ret (by simp [results, Try.results47, go_sem]) rfl ⟨rfl, hb⟩
  · rw [e1, e2, e3]; clear e1 e2 e3
    rcases next_mem (g := g) h with ⟨rfl, hE, _⟩ | ⟨_, _, hm⟩ | ⟨h0, hE, _⟩
    · clear h hg
      go_enter Try.func47, Try.ntmps47
      go_wp2_with (go_at_call 42; refine (rNext_any _ _ _).mono ?_; rintro e w1 ⟨rfl, hb⟩)
      exact bodyPost_ret (by simp [results, Try.results47, go_sem]) rfl ⟨rfl, hb⟩
    · exact absurd hm hg
    · clear h hg
      go_enter Try.func47, Try.ntmps47
      go_wp2_with (go_at_call 42; refine (rNext_any _ _ _).mono ?_; rintro e w1 ⟨rfl, hb⟩)
      exact bodyPost_ret (by simp [results, Try.results47, go_sem]) rfl ⟨rfl, hb⟩
  · rw [e1, e2, e3]; clear e1 e2 e3
    rcases next_mem (g := g) h with ⟨rfl, _, hm⟩ | ⟨h0, hE, hm⟩ | ⟨h0, _, hm⟩
    · exact absurd hg hm
    · have h0' : (g == 0) = false := by simpa using h0
      clear h hg hm h0
      by_cases h5 : a < 1
      · clear h3
        go_enter Try.func47, Try.ntmps47
        go_wp2_with (go_at_call 42; refine (rNext_any _ _ _).mono ?_; rintro e w1 ⟨rfl, hb⟩)
        exact bodyPost_ret (by simp [results, Try.results47, go_sem]) rfl ⟨rfl, hb⟩
      · have h6 : 33 < a := by omega
        clear h3
        go_enter Try.func47, Try.ntmps47
        go_wp2_with (go_at_call 42; refine (rNext_any _ _ _).mono ?_; rintro e w1 ⟨rfl, hb⟩)
        exact bodyPost_ret (by simp [results, Try.results47, go_sem]) rfl ⟨rfl, hb⟩
    · exact absurd hg hm
  · rw [e1, e2, e3]; clear e1 e2 e3
    obtain ⟨g1, g2⟩ := groups_bd hg
    obtain ⟨h3, h4⟩ := h3
    unfold cornerX cornerY
    rcases next_mem (g := g) h with ⟨rfl, _, hm⟩ | ⟨h0, hE, hm⟩ | ⟨h0, _, hm⟩
    · exact absurd hg hm
    · have h0' : (g == 0) = false := by simpa using h0
      clear hg hm h0
      rcases h with rfl | rfl
      · rw [Int.zero_mul, Int.add_zero]
        go_enter Try.func47, Try.ntmps47
        go_wp2_with (go_at_call 42; refine (rNext_any _ _ _).mono ?_; rintro e w1 ⟨rfl, hb⟩)
        exact bodyPost_ret (by simp [results, Try.results47, go_sem]) rfl ⟨rfl, hb⟩
      · rw [Int.one_mul]
        go_enter Try.func47, Try.ntmps47
        go_wp2_with (go_at_call 42; refine (rNext_any _ _ _).mono ?_; rintro e w1 ⟨rfl, hb⟩)
        exact bodyPost_ret (by simp [results, Try.results47, go_sem]) rfl ⟨rfl, hb⟩
    · exact absurd hg hm
end Go.Proofs.Ytcieggaihelacaa
