/- The contract of the document's Fetch. -/
import Derived.Test.YtcieggaihelacaaMog
set_option linter.unusedSimpArgs false
set_option linter.unusedVariables false
namespace Go.Proofs.Ytcieggaihelacaa
open Go.RowKit
theorem fetI_in {f g a b x y : Int} {n : Nat} (hc : cornE f g a = 0) (hl : (n : Int) = bytesS f) (hb : 1 ≤ b ∧ b ≤ 6) (hfit : fitsE f g a x y = 0) {k : Nat} (hk : k < 64) : 0 ≤ fetI f g a b x y k ∧ fetI f g a b x y k < n := by
  obtain ⟨hf, hg, ha3, hX, hY⟩ := corn_ok hc
  obtain ⟨x0, x1, y0, y1⟩ := corner_bd hf hg ha3
  have hft : (-15 ≤ x ∧ x ≤ 15 ∧ -15 ≤ y ∧ y ≤ 15) ∧ (0 ≤ cornerX f g a + x ∧ cornerX f g a + x + 16 ≤ wideS f ∧ 0 ≤ cornerY g a + y ∧ cornerY g a + y + 16 ≤ highS f) := by
    rcases fits_cases f g a x y with ⟨h1, _⟩ | ⟨_, _, h1⟩ | ⟨_, _, _, h1⟩ | ⟨_, h1, h2, _⟩
    · exact absurd hc h1
    · rw [hfit] at h1; cases h1
    · rw [hfit] at h1; cases h1
    · exact ⟨h1, h2⟩
  have kx := half_tdiv x
  have ky := half_tdiv y
  unfold fetI plcV plcS sxS
  generalize cornerX f g a = X at *
  generalize cornerY g a = Y at *
  generalize halfS x = hx at *
  generalize halfS y = hy at *
  clear hX hY hg ha3 hc hfit
  rcases hf with rfl | rfl
  · have e1 : wideS 0 = 176 := rfl
    have e2 : highS 0 = 144 := rfl
    have e3 : bytesS 0 = 38016 := rfl
    simp only [e1, e2] at hft x1 y1 ⊢
    rw [e3] at hl
    split at kx <;> split at ky <;> by_cases hb4 : b ≤ 4
    all_goals
      first
        | (rw [if_pos hb4, if_pos hb4, if_neg (by omega), if_neg (by omega)]; omega)
        | (rw [if_neg hb4, if_neg hb4, if_pos (by omega), if_pos (by omega)]; omega)
  · have e1 : wideS 1 = 352 := rfl
    have e2 : highS 1 = 288 := rfl
    have e3 : bytesS 1 = 152064 := rfl
    simp only [e1, e2] at hft x1 y1 ⊢
    rw [e3] at hl
    split at kx <;> split at ky <;> by_cases hb4 : b ≤ 4
    all_goals
      first
        | (rw [if_pos hb4, if_pos hb4, if_neg (by omega), if_neg (by omega)]; omega)
        | (rw [if_neg hb4, if_neg hb4, if_pos (by omega), if_pos (by omega)]; omega)
end Go.Proofs.Ytcieggaihelacaa
