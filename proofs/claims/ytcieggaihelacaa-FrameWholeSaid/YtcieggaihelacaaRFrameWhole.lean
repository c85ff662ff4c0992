/- The statement FrameWhole of the given program: whatever the numbers, the call returns true, never panics, and old memory lies as it lay. -/
import Derived.Test.YtcieggaihelacaaRows
import Derived.Test.YtcieggaihelacaaWords
import Derived.Test.YtcieggaihelacaaFwc
import Derived.Test.YtcieggaihelacaaRow2
import Derived.WalkKit
import Derived.ProofKit
import Derived.OpenShut
namespace Go.Proofs.Ytcieggaihelacaa.frameWhole
open Go.ChangeShapes Go.WideShapes Go.ChangeAt Go.RowKit
set_option linter.unusedVariables false
set_option maxRecDepth 100000 in
theorem lifted (os : Os) (started : os.Started) (H : Type) (enc : TypeId × Value → H) :
    ReturnsInHanded {} Try.checked os 11 .any (Rows.frameWholeSpec.pre6 enc Try.prog Try.f11 Rows.frameWholeRow.domain false) (Rows.frameWholeSpec.post enc Try.prog Try.f11 false true false false) := by
  refine returnsInHanded_of_change (C := Try.checked) knob started (by kernel_rfl) Try.func11
    (ChangeSpec.witness6 (enc := enc) (C := Try.checked) false ⟨#[], #[.bool false], []⟩ 8 (by kernel_rfl) (by kernel_rfl) (by kernel_rfl) (by kernel_rfl)) ?_
  intro W base args ds gs before hval0 hW hcnd _
  have hval : ∀ (j : Nat) t v, Try.f11.params[j]? = some t → args[j]? = some v → Value.okWide Try.prog W .any base t v := hval0
  have hW' := hW
  have hlt := hW.lt
  obtain ⟨p, q, hA0, hV, rfl, hfz, hnd⟩ := hW
  have hA : DataW.TrodAll enc Try.prog W 0 (fun _ => true) true Try.f11.params.toList args.toList ds p := hA0
  rw [Try.params11] at hA hval
  obtain ⟨v0, vs0, d0, ds0, p0, q0, hargs, rfl, rfl, h0, r0⟩ := trodAll_cons hA
  obtain ⟨rfl, rfl, rfl⟩ := trodAll_nil r0
  obtain rfl : args = #[v0] := by cases args; simp_all
  obtain ⟨rfl, rfl⟩ := trodVars_none hV
  obtain ⟨a0, rfl, _, _⟩ := open_bool Try.underlying4 (hval 0 _ v0 rfl rfl) h0
  clear hA0 hval0
  have hk : Calls Try.prog 11 #[.bool a0] W fun e w' => e = .returned (.bool true) ∧ Below W.heap.size W w' :=
    by
      cases a0
      · exact frameWhole_0 W
      · exact frameWhole_1 W
  exact hk.mono fun e W' he => ⟨_, he.1, post_true (f := Try.f11) (s := Rows.frameWholeSpec) hW' rfl rfl (by rw [Try.params11]; decide) rfl he.2⟩
theorem facts : joinedFacts Try.prog 11 Try.f11 Rows.frameWholeSpec Rows.frameWholeRow = true := by
  unfold joinedFacts
  rw [may_enter, lifts_final, made]
  kernel_rfl
theorem over : Rows.frameWholeRow.holds Try.pinned (OpenSpec.ofChange Rows.frameWholeSpec) :=
  OpenClaim.holds_of_wide 11 Try.f11 rfl rfl rfl rfl rfl rfl rfl ⟨rfl, rfl, rfl, rfl, rfl⟩ rfl rfl rfl rfl rfl (by kernel_rfl) Try.func11 facts
    (of_decide_eq_true (by kernel_rfl)) (by unfold Func.isWrapper; first | (rw [if_pos (by decide +kernel)]; kernel_rfl) | (rw [if_neg (by decide +kernel)]; exact ⟨rfl, rfl⟩))
    (fun os started H enc _ => lifted os started H enc)

/-- The statement. -/
theorem proved : Rows.FrameWholeSaid :=
  over
#print axioms proved
end Go.Proofs.Ytcieggaihelacaa.frameWhole
