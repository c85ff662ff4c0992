/- Layer 13's statements, walked: FramePlaces, FrameTells, FrameKnown. -/
import Derived.Test.YtcieggaihelacaaFrm
namespace Go.Proofs.Ytcieggaihelacaa
open Go.RowKit

theorem framePlaces_any (f g a b : Int) (w : World) (ha : -9223372036854775808 ≤ a) (ha2 : a ≤ 9223372036854775807) :
    Calls Try.prog 9 #[.int .i64 f, .int .i64 g, .int .i64 a, .int .i64 b] w fun e w' => e = .returned (.bool true) ∧ Below w.heap.size w w' := by
  go_enter Try.func9, Try.ntmps9
  go_wp2_with (first
    | (go_at_call 46; refine (Corner_any _ _ _ _ ha ha2).mono ?_; rintro e w1 ⟨rfl, h1⟩)
    | (go_at_call 47; refine (rCorner_any _ _ _ _ ha ha2).mono ?_; rintro e w2 ⟨rfl, h2⟩)
    | (go_at_call 48; refine (place_any _ _ _ _ _ ha ha2).mono ?_; rintro e w3 ⟨rfl, h3⟩)
    | (go_at_call 49; refine (rPlace_any _ _ _ _ _ ha ha2).mono ?_; rintro e w4 ⟨rfl, h4⟩)
    | (go_at_call 45; refine (awake13_any _).mono ?_; rintro e w5 ⟨rfl, h5⟩))
  go_ret
  exact ⟨rfl, below_next (below_next (below_next (below_next h1 h2) h3) h4) h5⟩
end Go.Proofs.Ytcieggaihelacaa
