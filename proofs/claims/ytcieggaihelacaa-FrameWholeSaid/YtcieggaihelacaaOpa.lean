/- One append, as one operation, for the regions that draw their order. -/
import Derived.Test.YtcieggaihelacaaRng
set_option linter.unusedSimpArgs false
set_option linter.unusedVariables false
namespace Go.Proofs.Ytcieggaihelacaa
open Go.RowKit Go.Shelf
theorem opIn_app1 {F : Fence} {nF : Nat} {P : Program} {K : Act → World → Prop} {Q : Exit → Act → World → Prop} {a : Act} {w : World} {dst : Option Tmp} {ty t e : TypeId} {pos : String} {aft : Array Edge} {gd : Option (Nat × Bool)} {s x : Operand} {z : Value} {bytes base n g : Nat} {v u : Value} {xs : List Value}
    (E : ElemI P t e z bytes) (hs : a.eval s = v) (hx : a.eval x = .slice (some ⟨g, 0, none⟩) 1 1) (hown : w.ownsRow base e 1 v n xs) (hc : w.cell? ⟨g, 0, none⟩ = some u) (h1 : u.oneCell' = true)
    (hn : (n + 1) * (bytes + 1) ≤ 140737488355328) (hbase : base ≤ w.heap.size)
    (h : ∀ g' cap' w', w'.ownsRow base e 1 (.slice (some ⟨g', 0, none⟩) (n + 1) cap') (n + 1) (xs ++ [u]) → w.grownBy w' v.ownBlock → (v.ownBlock = some g' ∨ g' = w.heap.size) → K (a.put dst (.slice (some ⟨g', 0, none⟩) (n + 1) cap')) w') :
    Oper.wpIn F nF P ⟨dst, .call { callee := .builtin .append, args := #[s, x], argTypes := #[t, t] }, ty, pos, aft, gd⟩ a w K Q := by
  obtain ⟨i, hi, hz0, hz1, hz2⟩ := info_parts E.info
  have hn1 : n + 1 ≤ 140737488355328 := Nat.le_trans (Nat.le_mul_of_pos_right _ (by omega)) hn
  have hn2 : (n + 1) * bytes ≤ 140737488355328 := Nat.le_trans (Nat.mul_le_mul_left _ (by omega)) hn
  obtain ⟨v', w', hr, k2, k3, k4, k5⟩ := run_append_own_at (P := P) w base t ty e i z 1 bytes E.under hi hz0 hz1 hz2 E.one (by decide) v n xs hown ⟨g, 0, none⟩ 1 1 [u] rfl
    (by
      intro j y hj
      cases j with
      | zero => simp at hj; subst hj; simpa [Addr.add] using hc
      | succ j => simp at hj)
    (by intro y hy; simp at hy; subst hy; exact h1) (by simp [maxLen]; omega) hn2 hbase
  unfold Oper.wpIn
  refine ⟨by simp [Oper.about, resolve, Target.leads, Sem.run_pure], ?_⟩
  rw [Oper.semAt_plain F _ _ (by intro c hc'; cases hc')]
  simp [execOp, resolve, invoke, builtin, hs, hx, hr, Result.andThen]
  obtain ⟨g', cap', rfl⟩ := ownsRow_succ k2
  refine h g' cap' w' k2 k3 ?_
  rcases k5 with hat | hat
  · exact Or.inl hat.symm
  · exact Or.inr (by simpa [Value.ownBlock] using hat)
end Go.Proofs.Ytcieggaihelacaa
