/- The contract of the program's Fetch: refused or told, whatever the numbers. -/
import Derived.Test.YtcieggaihelacaaMof
set_option linter.unusedSimpArgs false
set_option linter.unusedVariables false
namespace Go.Proofs.Ytcieggaihelacaa
open Go.RowKit
theorem fetL_len {f g a b x y : Int} {xs : List Int} (h : fetE f g a xs.length b x y = 0) : fetL f g a xs b x y = (List.range 64).map (fun k => xs[(fetI f g a b x y k).toNat]?.getD 0) := by unfold fetL; rw [if_pos h]
theorem fetL_none {f g a b x y : Int} {xs : List Int} (h : fetE f g a xs.length b x y ≠ 0) : fetL f g a xs b x y = [] := by unfold fetL; rw [if_neg h]
theorem fetch_any (f g a b x y : Int) (v : Value) (xs : List Int) (w : World) (h : Rd .u8 w v xs) (ha : -9223372036854775808 ≤ a) (ha2 : a ≤ 9223372036854775807) (hx0 : -9223372036854775808 ≤ x) (hx1 : x ≤ 9223372036854775807) (hy0 : -9223372036854775808 ≤ y) (hy1 : y ≤ 9223372036854775807) :
    Calls Try.prog 23 #[v, .agg #[.int .i64 f, .int .i64 g, .int .i64 a], .int .i64 b, .int .i64 x, .int .i64 y] w fun e w' => (∃ r, e = .returned (.tuple #[r, .int .i64 (fetE f g a xs.length b x y)]) ∧ w'.ownsRow w.heap.size 5 1 r (fetL f g a xs b x y).length ((fetL f g a xs b x y).map (Value.int .u8))) ∧ Below w.heap.size w w' := by
  by_cases hE : fetE f g a xs.length b x y = 0
  · obtain ⟨hc, h1, h2, h3⟩ : cornE f g a = 0 ∧ (xs.length : Int) = bytesS f ∧ (1 ≤ b ∧ b ≤ 6) ∧ fitsE f g a x y = 0 := by
      rcases fet_cases f g a xs b x y with ⟨hc, e, _⟩ | ⟨hc, h1, e, _⟩ | ⟨hc, h1, h2, e, _⟩ | ⟨hc, h1, h2, h3, e, _⟩ | ⟨hc, h1, h2, h3, e, _⟩
      · rw [e] at hE; exact absurd hE hc
      · rw [e] at hE; cases hE
      · rw [e] at hE; cases hE
      · rw [e] at hE; exact absurd hE h3
      · exact ⟨hc, h1, h2, h3⟩
    rw [fetL_len hE, hE]
    have hl : ((List.range 64).map (fun k => xs[(fetI f g a b x y k).toNat]?.getD 0)).length = 64 := by simp
    rw [hl]
    rcases (show b ≤ 4 ∨ b = 5 ∨ b = 6 by omega) with hb | hb | hb
    · exact fetch_l f g a b x y v xs w h ha ha2 hc h1 h2 h3 hb
    · exact fetch_c5 f g a b x y v xs w h ha ha2 hc h1 h2 h3 hb
    · exact fetch_c6 f g a b x y v xs w h ha ha2 hc h1 h2 h3 hb
  · rw [fetL_none hE]
    refine (fetch_bad f g a b x y v xs w h ha ha2 hx0 hx1 hy0 hy1 hE).mono fun e w' he => ?_
    exact ⟨⟨_, he.1, World.ownsRow_nil _ _ _ _⟩, he.2⟩
theorem half_r (x : Int) (w : World) (h0 : -9223372036854775808 ≤ x) (h1 : x ≤ 9223372036854775807) : Calls Try.prog 32 #[.int .i64 x] w fun e w' => e = .returned (.int .i64 (halfS x)) ∧ w = w' := by
  have hh := half_tdiv x
  have HH := Lib.hid hh
  unfold halfS
  clear hh
  go_enter Try.func32, Try.ntmps32
  go_wp2
  go_ret
  exact ⟨ret_int rfl, rfl⟩
end Go.Proofs.Ytcieggaihelacaa
