/- The contract of the document's Fetch: refused or told, as the program's. -/
import Derived.Test.YtcieggaihelacaaMoj
set_option linter.unusedSimpArgs false
set_option linter.unusedVariables false
namespace Go.Proofs.Ytcieggaihelacaa
open Go.RowKit
theorem rfetch_any (f g a b x y : Int) (v : Value) (xs : List Int) (w : World) (h : Rd .u8 w v xs) (ha : -9223372036854775808 ≤ a) (ha2 : a ≤ 9223372036854775807) :
    Calls Try.prog 24 #[v, .agg #[.int .i64 f, .int .i64 g, .int .i64 a], .int .i64 b, .int .i64 x, .int .i64 y] w fun e w' => (∃ r, e = .returned (.tuple #[r, .int .i64 (fetE f g a xs.length b x y)]) ∧ w'.ownsRow w.heap.size 5 1 r (fetL f g a xs b x y).length ((fetL f g a xs b x y).map (Value.int .u8))) ∧ Below w.heap.size w w' := by
  by_cases hE : fetE f g a xs.length b x y = 0
  · obtain ⟨hc, h1, h2, h3⟩ : cornE f g a = 0 ∧ (xs.length : Int) = bytesS f ∧ (1 ≤ b ∧ b ≤ 6) ∧ fitsE f g a x y = 0 := by
      rcases fet_cases f g a xs b x y with ⟨hc, e, _⟩ | ⟨hc, h1, e, _⟩ | ⟨hc, h1, h2, e, _⟩ | ⟨hc, h1, h2, h3, e, _⟩ | ⟨hc, h1, h2, h3, e, _⟩
      · rw [e] at hE; exact absurd hE hc
      · rw [e] at hE; cases hE
      · rw [e] at hE; cases hE
      · rw [e] at hE; exact absurd hE h3
      · exact ⟨hc, h1, h2, h3⟩
    have hx : -15 ≤ x ∧ x ≤ 15 ∧ -15 ≤ y ∧ y ≤ 15 := by
      rcases fits_cases f g a x y with ⟨k1, _⟩ | ⟨_, _, k1⟩ | ⟨_, _, _, k1⟩ | ⟨_, k1, k2, _⟩
      · exact absurd hc k1
      · rw [h3] at k1; cases k1
      · rw [h3] at k1; cases k1
      · exact k1
    rw [fetL_len hE, hE]
    have hl : ((List.range 64).map (fun k => xs[(fetI f g a b x y k).toNat]?.getD 0)).length = 64 := by simp
    rw [hl]
    rcases (show b ≤ 4 ∨ 4 < b by omega) with hb | hb
    · exact rfetch_l f g a b x y v xs w h ha ha2 hc h1 h2 h3 hx hb
    · exact rfetch_c f g a b x y v xs w h ha ha2 hc h1 h2 h3 hx hb
  · rw [fetL_none hE]
    refine (rfetch_bad f g a b x y v xs w h ha ha2 hE).mono fun e w' he => ?_
    exact ⟨⟨_, he.1, World.ownsRow_nil _ _ _ _⟩, he.2⟩
end Go.Proofs.Ytcieggaihelacaa
