/- The contracts of the shared kit's small functions: Size. -/
import Derived.Test.YtcieggaihelacaaFrn
import Derived.Test.YtcieggaihelacaaMod
set_option linter.unusedSimpArgs false
set_option linter.unusedVariables false
namespace Go.Proofs.Ytcieggaihelacaa
open Go.RowKit
theorem ksize_any (f : Int) (w : World) :
    Calls Try.prog 73 #[.int .i64 f] w fun e w' => e = .returned (.int .i64 (bytesS f)) ∧ w = w' := by
  rcases fmt_cases f with ⟨hf, h1, h2, h3, h4⟩ | ⟨hf, h1, h2, h3, h4⟩ | ⟨hf, hf', h1, h2, h3, h4⟩
  all_goals
    rw [h3]
    clear h1 h2 h3 h4
    try subst hf
    go_enter Try.func73, Try.ntmps73
    go_wp2
    go_ret
    exact ⟨rfl, rfl⟩
end Go.Proofs.Ytcieggaihelacaa
