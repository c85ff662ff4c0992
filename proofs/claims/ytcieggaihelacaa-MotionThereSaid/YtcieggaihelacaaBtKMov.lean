/- Layer 14's statement MotionThere: all formats and blocks. -/
import Derived.Test.YtcieggaihelacaaBtKMva
import Derived.Test.YtcieggaihelacaaBtKMvb
import Derived.Test.YtcieggaihelacaaBtKMvc
import Derived.Test.YtcieggaihelacaaBtKMvd
import Derived.Test.YtcieggaihelacaaBtKMve
import Derived.Test.YtcieggaihelacaaBtKMvf
set_option linter.unusedSimpArgs false
set_option linter.unusedVariables false
namespace Go.Proofs.Ytcieggaihelacaa
open Go.RowKit
theorem motionThere_any (x0 x1 x2 x3 x4 x5 x6 x7 : Int) (w : World) (h0 : -9223372036854775808 ≤ x0 ∧ x0 ≤ 9223372036854775807) (h1 : -9223372036854775808 ≤ x1 ∧ x1 ≤ 9223372036854775807) (h2 : -9223372036854775808 ≤ x2 ∧ x2 ≤ 9223372036854775807) (h3 : -9223372036854775808 ≤ x3 ∧ x3 ≤ 9223372036854775807) (h4 : -9223372036854775808 ≤ x4 ∧ x4 ≤ 9223372036854775807) (h5 : -9223372036854775808 ≤ x5 ∧ x5 ≤ 9223372036854775807) :
    Calls Try.prog 15 #[.int .i64 x0, .int .i64 x1, .int .i64 x2, .int .i64 x3, .int .i64 x4, .int .i64 x5, .int .i64 x6, .int .i64 x7] w fun e w' => e = .returned (.bool true) ∧ Below w.heap.size w w' := by
  rcases (show x0 % 2 = 0 ∨ x0 % 2 = 1 by omega) with a | a <;> rcases (show x3 % 6 ≤ 3 ∨ x3 % 6 = 4 ∨ x3 % 6 = 5 by omega) with b | b | b
  · exact motionThere_0_1 _ _ _ _ _ _ _ _ w h0 h1 h2 h3 h4 h5 a b
  · exact motionThere_0_5 _ _ _ _ _ _ _ _ w h0 h1 h2 h3 h4 h5 a b
  · exact motionThere_0_6 _ _ _ _ _ _ _ _ w h0 h1 h2 h3 h4 h5 a b
  · exact motionThere_1_1 _ _ _ _ _ _ _ _ w h0 h1 h2 h3 h4 h5 a b
  · exact motionThere_1_5 _ _ _ _ _ _ _ _ w h0 h1 h2 h3 h4 h5 a b
  · exact motionThere_1_6 _ _ _ _ _ _ _ _ w h0 h1 h2 h3 h4 h5 a b
end Go.Proofs.Ytcieggaihelacaa
