/- The statements' own helpers of layer 13: each tells true where the numbers are those; some of the chapter's examples. -/
import Derived.Test.YtcieggaihelacaaFrl
set_option linter.unusedSimpArgs false
set_option linter.unusedVariables false
namespace Go.Proofs.Ytcieggaihelacaa
open Go.RowKit

theorem sized_true (f a b c d : Int) (w : World) (h1 : wideS f = a) (h2 : highS f = b) (h3 : bytesS f = c) (h4 : fmtE f = d) :
    Calls Try.prog 50 #[.int .i64 f, .int .i64 a, .int .i64 b, .int .i64 c, .int .i64 d] w fun e w' => e = .returned (.bool true) ∧ Below w.heap.size w w' := by
  subst h1 h2 h3 h4
  go_enter Try.func50, Try.ntmps50
  go_wp2_with (go_at_call 37; refine (size_any _ _).mono ?_; rintro e w' ⟨rfl, rfl⟩)
  go_ret
  exact ⟨rfl, Below.refl _ _⟩
theorem next_true (f g a b : Int) (w : World) (h1 : nextV f g = a) (h2 : nextE f g = b) :
    Calls Try.prog 51 #[.int .i64 f, .int .i64 g, .int .i64 a, .int .i64 b] w fun e w' => e = .returned (.bool true) ∧ Below w.heap.size w w' := by
  subst h1 h2
  go_enter Try.func51, Try.ntmps51
  go_wp2_with (go_at_call 41; refine (Next_any _ _ _).mono ?_; rintro e w' ⟨rfl, hb⟩)
  go_ret
  exact ⟨rfl, hb⟩
theorem corner_true (f g a x y z : Int) (w : World) (ha : -9223372036854775808 ≤ a) (ha2 : a ≤ 9223372036854775807) (h1 : cornX f g a = x) (h2 : cornY f g a = y) (h3 : cornE f g a = z) :
    Calls Try.prog 52 #[.int .i64 f, .int .i64 g, .int .i64 a, .int .i64 x, .int .i64 y, .int .i64 z] w fun e w' => e = .returned (.bool true) ∧ Below w.heap.size w w' := by
  subst h1 h2 h3
  go_enter Try.func52, Try.ntmps52
  go_wp2_with (go_at_call 46; refine (Corner_any _ _ _ _ ha ha2).mono ?_; rintro e w' ⟨rfl, hb⟩)
  go_ret
  exact ⟨rfl, hb⟩
theorem place_true (f g a b x y z : Int) (w : World) (ha : -9223372036854775808 ≤ a) (ha2 : a ≤ 9223372036854775807) (h1 : plA f g a b = x) (h2 : plS f g a b = y) (h3 : plE f g a b = z) :
    Calls Try.prog 53 #[.int .i64 f, .int .i64 g, .int .i64 a, .int .i64 b, .int .i64 x, .int .i64 y, .int .i64 z] w fun e w' => e = .returned (.bool true) ∧ Below w.heap.size w w' := by
  subst h1 h2 h3
  go_enter Try.func53, Try.ntmps53
  go_wp2_with (go_at_call 48; refine (place_any _ _ _ _ _ ha ha2).mono ?_; rintro e w' ⟨rfl, hb⟩)
  go_ret
  exact ⟨rfl, hb⟩
theorem below_next {w v u : World} (h : Below w.heap.size w v) (g : Below v.heap.size v u) : Below w.heap.size w u := h.trans (g.mono h.size)
set_option maxRecDepth 100000 in
theorem awake13_any (w : World) : Calls Try.prog 45 #[] w fun e w' => e = .returned (.bool true) ∧ Below w.heap.size w w' := by
  go_enter Try.func45, Try.ntmps45
  go_wp2_with (first
    | (go_at_call 50; refine (sized_true _ _ _ _ _ _ (by decide) (by decide) (by decide) (by decide)).mono ?_; rintro e w1 ⟨rfl, h1⟩)
    | (go_at_call 51; refine (next_true _ _ _ _ _ (by decide) (by decide)).mono ?_; rintro e w2 ⟨rfl, h2⟩)
    | (go_at_call 52; refine (corner_true _ _ _ _ _ _ _ (by decide) (by decide) (by decide) (by decide) (by decide)).mono ?_; rintro e w3 ⟨rfl, h3⟩)
    | (go_at_call 53; refine (place_true _ _ _ _ _ _ _ _ (by decide) (by decide) (by decide) (by decide) (by decide)).mono ?_; rintro e w4 ⟨rfl, h4⟩))
  go_ret
  exact ⟨rfl, below_next (below_next (below_next h1 h2) h3) h4⟩
end Go.Proofs.Ytcieggaihelacaa
