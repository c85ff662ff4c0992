/- The statement PaintAdds of the given program: whatever the numbers, the call returns true, never panics, and old memory lies as it lay. -/
import Derived.Test.YtcieggaihelacaaRows
import Derived.Test.YtcieggaihelacaaWords
import Derived.Test.YtcieggaihelacaaPo
import Derived.Test.YtcieggaihelacaaRow2
import Derived.WalkKit
import Derived.ProofKit
import Derived.OpenShut
namespace Go.Proofs.Ytcieggaihelacaa.paintAdds
open Go.ChangeShapes Go.WideShapes Go.ChangeAt Go.RowKit
set_option linter.unusedVariables false
set_option maxRecDepth 100000 in
theorem lifted (os : Os) (started : os.Started) (H : Type) (enc : TypeId × Value → H) :
    ReturnsInHanded {} Try.checked os 14 .any (Rows.paintAddsSpec.pre6 enc Try.prog Try.f14 Rows.paintAddsRow.domain false) (Rows.paintAddsSpec.post enc Try.prog Try.f14 false true false false) := by
  refine returnsInHanded_of_change (C := Try.checked) knob started (by kernel_rfl) Try.func14
    (ChangeSpec.witness6 (enc := enc) (C := Try.checked) false ⟨#[], #[.slice none 0 0, .slice none 0 0, .int .i64 0], []⟩ 8 (by kernel_rfl) (by kernel_rfl) (by kernel_rfl) (by kernel_rfl)) ?_
  intro W base args ds gs before hval0 hW hcnd _
  have hval : ∀ (j : Nat) t v, Try.f14.params[j]? = some t → args[j]? = some v → Value.okWide Try.prog W .any base t v := hval0
  have hW' := hW
  have hlt := hW.lt
  obtain ⟨p, q, hA0, hV, rfl, hfz, hnd⟩ := hW
  have hA : DataW.TrodAll enc Try.prog W 0 (fun _ => true) true Try.f14.params.toList args.toList ds p := hA0
  rw [Try.params14] at hA hval
  obtain ⟨v0, vs0, d0, ds0, p0, q0, hargs, rfl, rfl, h0, r0⟩ := trodAll_cons hA
  obtain ⟨v1, vs1, d1, ds1, p1, q1, rfl, rfl, rfl, h1, r1⟩ := trodAll_cons r0
  obtain ⟨v2, vs2, d2, ds2, p2, q2, rfl, rfl, rfl, h2, r2⟩ := trodAll_cons r1
  obtain ⟨rfl, rfl, rfl⟩ := trodAll_nil r2
  obtain rfl : args = #[v0, v1, v2] := by cases args; simp_all
  obtain ⟨rfl, rfl⟩ := trodVars_none hV
  obtain ⟨a0, n0, c0, rfl⟩ := okWide_slice Try.underlying24 (hval 0 _ v0 rfl rfl)
  have l0 := list_len Try.underlying24 (hval 0 _ (.slice a0 n0 c0) rfl rfl)
  have o0 := fun hn => open_list (n := n0) Try.underlying24 Try.underlying5 Try.cells5 (hval 0 _ (.slice a0 n0 c0) rfl rfl) h0 hn
  obtain ⟨a1, n1, c1, rfl⟩ := okWide_slice Try.underlying46 (hval 1 _ v1 rfl rfl)
  have l1 := list_len Try.underlying46 (hval 1 _ (.slice a1 n1 c1) rfl rfl)
  have o1 := fun hn => open_list (n := n1) Try.underlying46 Try.underlying3 Try.cells3 (hval 1 _ (.slice a1 n1 c1) rfl rfl) h1 hn
  obtain ⟨a2, rfl, _, _, w2⟩ := open_int Try.underlying3 (hval 2 _ v2 rfl rfl) h2
  clear hA0 hval0
  have hk : Calls Try.prog 14 #[.slice a0 n0 c0, .slice a1 n1 c1, .int .i64 a2] W fun e w' => e = .returned (.bool true) ∧ Below W.heap.size W w' :=
    by
      by_cases hh : 80 < n0 ∨ 80 < n1
      · exact paintAdds_long _ _ _ _ _ _ _ W l0 l1 hh
      · obtain ⟨xs, e0, r0, y0⟩ := o0 (by omega)
        obtain ⟨ys, e1, r1, _⟩ := o1 (by omega)
        exact paintAdds_short _ _ xs ys a2 W r0 (byt_wf y0) r1 (by omega) (by omega)
  exact hk.mono fun e W' he => ⟨_, he.1, post_true (f := Try.f14) (s := Rows.paintAddsSpec) hW' rfl rfl (by rw [Try.params14]; decide) rfl he.2⟩
theorem facts : joinedFacts Try.prog 14 Try.f14 Rows.paintAddsSpec Rows.paintAddsRow = true := by
  unfold joinedFacts
  rw [may_enter, lifts_final, made]
  kernel_rfl
theorem over : Rows.paintAddsRow.holds Try.pinned (OpenSpec.ofChange Rows.paintAddsSpec) :=
  OpenClaim.holds_of_wide 14 Try.f14 rfl rfl rfl rfl rfl rfl rfl ⟨rfl, rfl, rfl, rfl, rfl⟩ rfl rfl rfl rfl rfl (by kernel_rfl) Try.func14 facts
    (of_decide_eq_true (by kernel_rfl)) (by unfold Func.isWrapper; first | (rw [if_pos (by decide +kernel)]; kernel_rfl) | (rw [if_neg (by decide +kernel)]; exact ⟨rfl, rfl⟩))
    (fun os started H enc _ => lifted os started H enc)

/-- The statement. -/
theorem proved : Rows.PaintAddsSaid :=
  over
#print axioms proved
end Go.Proofs.Ytcieggaihelacaa.paintAdds
