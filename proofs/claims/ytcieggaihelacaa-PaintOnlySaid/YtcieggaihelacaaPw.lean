/- Plain laws of a picture: how many samples change, and to what. -/
import Derived.Test.YtcieggaihelacaaPu
set_option linter.unusedSimpArgs false
set_option linter.unusedVariables false
namespace Go.Proofs.Ytcieggaihelacaa
open Go.RowKit
/-- How many of the first n numbers differ. -/
def dif (xs ys : List Int) : Nat → Nat
  | 0 => 0
  | n + 1 => dif xs ys n + (if xs[n]?.getD 0 = ys[n]?.getD 0 then 0 else 1)
theorem dif_le (xs ys : List Int) : ∀ n, dif xs ys n ≤ n
  | 0 => Nat.le_refl _
  | n + 1 => by have := dif_le xs ys n; unfold dif; split <;> omega
theorem dif_self (xs : List Int) : ∀ n, dif xs xs n = 0
  | 0 => rfl
  | n + 1 => by unfold dif; rw [dif_self xs n, if_pos rfl]
theorem dif_set (xs ys : List Int) (p : Nat) (z : Int) : ∀ n, dif (xs.set p z) ys n ≤ dif xs ys n + (if p < n then 1 else 0)
  | 0 => by simp [dif]
  | n + 1 => by
    have ih := dif_set xs ys p z n
    unfold dif
    by_cases e : p = n
    · subst e
      rw [if_neg (Nat.lt_irrefl p)] at ih
      rw [if_pos (Nat.lt_succ_self p)]
      split <;> split <;> omega
    · rw [List.getElem?_set_ne e]
      by_cases h : p < n
      · rw [if_pos h] at ih
        rw [if_pos (show p < n + 1 by omega)]
        split <;> omega
      · rw [if_neg h] at ih
        rw [if_neg (show ¬ p < n + 1 by omega)]
        split <;> omega
theorem dif_put (q : Nat → Nat) (v : Nat → Int) (xs ys : List Int) (n : Nat) : ∀ k, dif (put q v k xs) ys n ≤ dif xs ys n + k
  | 0 => Nat.le_refl _
  | k + 1 => by
    have ih := dif_put q v xs ys n k
    have h := dif_set (put q v k xs) ys (q k) (v k) n
    unfold put
    split at h <;> omega
theorem dif_cpN (f g a : Int) (zs xs ys : List Int) (n : Nat) : ∀ J, dif (cpN f g a zs J xs) ys n ≤ dif xs ys n + 64 * J
  | 0 => by simp [cpN]
  | J + 1 => by
    have ih := dif_cpN f g a zs xs ys n J
    have h := dif_put (layQ f g a ((J : Int) + 1)) (fun i => zs[layQ f g a ((J : Int) + 1) i]?.getD 0) (cpN f g a zs J xs) ys n 64
    unfold cpN
    omega
theorem cpN_miss {f g a : Int} {xs ys : List Int} {m : Nat} : ∀ (J : Nat), (∀ j : Nat, j < J → ∀ i : Nat, i < 64 → layQ f g a ((j : Int) + 1) i ≠ m) → (cpN f g a ys J xs)[m]? = xs[m]?
  | 0, _ => rfl
  | J + 1, h => by
    unfold cpN
    rw [put_miss (h J (by omega)), cpN_miss J (fun j hj => h j (by omega))]
theorem put_congr {q : Nat → Nat} {v u : Nat → Int} {xs : List Int} : ∀ (k : Nat), (∀ i, i < k → v i = u i) → put q v k xs = put q u k xs
  | 0, _ => rfl
  | k + 1, h => by unfold put; rw [put_congr k (fun i hi => h i (by omega)), h k (by omega)]
/-- What PaintOnly reads, all at once. -/
theorem only_all {f g a b : Int} {n : Nat} {X Y : List Int} (hf : f = 0 ∨ f = 1) (hg : g ∈ groupsS f) (ha : 1 ≤ a ∧ a ≤ 33) (hx : X.length = n) (hy : Y.length = n) (hn : (n : Int) = bytesS f) (hb : 1 ≤ b ∧ b ≤ 6) :
    ∃ L X1 X2 : List Int, fetE f g a Y.length b 0 0 = 0 ∧ fetL f g a Y b 0 0 = L ∧ L.length = 64 ∧ layE f g a n 64 b = 0 ∧ layL f g a b X L = X1 ∧ cpE f g a n n = 0 ∧ cpL f g a X1 Y = X2 ∧ X1.length = n ∧ X2.length = n ∧
      dif X1 X n ≤ 64 ∧ dif X2 X n ≤ 384 ∧ (∀ m : Nat, X1[m]?.getD 0 ≠ X[m]?.getD 0 → X1[m]?.getD 0 = Y[m]?.getD 0) ∧ (∀ m : Nat, X2[m]?.getD 0 ≠ X[m]?.getD 0 → X2[m]?.getD 0 = Y[m]?.getD 0) ∧
      ∀ k : Int, 1 ≤ k ∧ k ≤ 6 → ∃ M, M.length = 64 ∧ fetE f g a X2.length k 0 0 = 0 ∧ fetE f g a Y.length k 0 0 = 0 ∧ fetL f g a X2 k 0 0 = M ∧ fetL f g a Y k 0 0 = M := by
  have hc := corn_zero hf hg ha
  have hY : (Y.length : Int) = bytesS f := by rw [hy]; exact hn
  have hX : (X.length : Int) = bytesS f := by rw [hx]; exact hn
  obtain ⟨eL, hL⟩ := fetL_00 (xs := Y) hc hY hb
  have hL64 : (fetL f g a Y b 0 0).length = 64 := by rw [hL]; simp
  obtain ⟨e1, h1⟩ := layL_put (ss := fetL f g a Y b 0 0) hc hX hL64 hb
  have h1' : layL f g a b X (fetL f g a Y b 0 0) = put (layQ f g a b) (fun i => Y[layQ f g a b i]?.getD 0) 64 X := by
    rw [h1]
    refine put_congr 64 (fun i hi => ?_)
    rw [hL, List.getElem?_map, List.getElem?_range hi]; rfl
  have l1 : (layL f g a b X (fetL f g a Y b 0 0)).length = n := by rw [layL_len, hx]
  have hE : cpE f g a n n = 0 := by unfold cpE; rw [if_pos hc, if_pos ⟨hn, hn⟩]
  have hcp : cpL f g a (layL f g a b X (fetL f g a Y b 0 0)) Y = cpN f g a Y 6 (layL f g a b X (fetL f g a Y b 0 0)) := by
    unfold cpL; rw [if_pos (by rw [l1, hy]; exact hE)]
  have hq : ∀ (b : Int) (i : Nat), 1 ≤ b ∧ b ≤ 6 → i < 64 → layQ f g a b i < Y.length := fun b i hb hi => (layQ_is hc hY hb hi).2
  -- each sample is the old one or the other picture's
  have m1 : ∀ m : Nat, (layL f g a b X (fetL f g a Y b 0 0))[m]? = X[m]? ∨ (layL f g a b X (fetL f g a Y b 0 0))[m]? = Y[m]? := fun m => by
    rw [h1']
    by_cases h : ∃ i, i < 64 ∧ layQ f g a b i = m
    · exact .inr (put_agree (fun _ => rfl) (by omega) m 64 (fun i hi => hq b i hb hi) (.inr h))
    · exact .inl (put_miss (fun i hi e => h ⟨i, hi, e⟩))
  have hsame : cpN f g a Y 6 (layL f g a b X (fetL f g a Y b 0 0)) = cpN f g a Y 6 X := by
    apply List.ext_getElem?
    intro m
    by_cases h : ∃ j : Nat, j < 6 ∧ ∃ i : Nat, i < 64 ∧ layQ f g a ((j : Int) + 1) i = m
    · rw [cpN_agree (by omega) hq m 6 (by omega) (.inr h), cpN_agree (by omega) hq m 6 (by omega) (.inr h)]
    · rw [cpN_miss 6 (fun j hj i hi e => h ⟨j, hj, i, hi, e⟩), cpN_miss 6 (fun j hj i hi e => h ⟨j, hj, i, hi, e⟩), h1']
      refine put_miss (fun i hi e => h ⟨(b - 1).toNat, by omega, i, hi, ?_⟩)
      rw [show (((b - 1).toNat : Nat) : Int) + 1 = b by omega]
      exact e
  have m2 : ∀ m : Nat, (cpN f g a Y 6 X)[m]? = X[m]? ∨ (cpN f g a Y 6 X)[m]? = Y[m]? := fun m => by
    by_cases h : ∃ j : Nat, j < 6 ∧ ∃ i : Nat, i < 64 ∧ layQ f g a ((j : Int) + 1) i = m
    · exact .inr (cpN_agree (by omega) hq m 6 (by omega) (.inr h))
    · exact .inl (cpN_miss 6 (fun j hj i hi e => h ⟨j, hj, i, hi, e⟩))
  have l2 : (cpN f g a Y 6 X).length = n := by rw [cpN_len, hx]
  refine ⟨_, _, cpN f g a Y 6 X, eL, rfl, hL64, by rw [hx, hL64] at e1; exact e1, rfl, hE, by rw [hcp, hsame], l1, l2, ?_, ?_, fun m h => ?_, fun m h => ?_, fun k hk => ?_⟩
  · have h := dif_put (layQ f g a b) (fun i => Y[layQ f g a b i]?.getD 0) X X n 64
    rw [dif_self] at h
    rw [h1']; omega
  · have h := dif_cpN f g a Y X X n 6
    rw [dif_self] at h
    omega
  · rcases m1 m with e | e
    · exact absurd (by rw [e]) h
    · rw [e]
  · rcases m2 m with e | e
    · exact absurd (by rw [e]) h
    · rw [e]
  · have l2' : ((cpN f g a Y 6 X).length : Int) = bytesS f := by rw [l2]; exact hn
    obtain ⟨eA, hA⟩ := fetL_00 (xs := cpN f g a Y 6 X) hc l2' hk
    obtain ⟨eB, hB⟩ := fetL_00 (xs := Y) hc hY hk
    refine ⟨_, by rw [hB]; simp, eA, eB, ?_, rfl⟩
    rw [hA, hB]
    refine List.map_congr_left fun i hi => ?_
    have hi' : i < 64 := by simpa using hi
    rw [cpN_agree (by omega) hq _ 6 (by omega) (.inr ⟨(k - 1).toNat, by omega, i, hi', by rw [show (((k - 1).toNat : Nat) : Int) + 1 = k by omega]⟩)]
end Go.Proofs.Ytcieggaihelacaa
