/- Plain laws of a picture: what is laid is fetched again; another block of the same spot stays; to lay twice is the same as once; how many samples change. -/
import Derived.Test.YtcieggaihelacaaPs
set_option linter.unusedSimpArgs false
set_option linter.unusedVariables false
namespace Go.Proofs.Ytcieggaihelacaa
open Go.RowKit
theorem put_hits {q : Nat → Nat} {v : Nat → Int} {xs zs : List Int} (hl : xs.length = zs.length) (m : Nat) : ∀ (k : Nat), (∃ i, i < k ∧ q i = m) → (put q v k xs)[m]? = (put q v k zs)[m]?
  | 0, h => by obtain ⟨i, hi, _⟩ := h; omega
  | k + 1, h => by
    unfold put
    by_cases e : q k = m
    · subst e
      by_cases hq : q k < xs.length
      · rw [List.getElem?_set_self (by rw [put_len]; exact hq), List.getElem?_set_self (by rw [put_len]; omega)]
      · rw [List.getElem?_eq_none (by rw [List.length_set, put_len]; omega), List.getElem?_eq_none (by rw [List.length_set, put_len]; omega)]
    · rw [List.getElem?_set_ne e, List.getElem?_set_ne e]
      refine put_hits hl m k ?_
      obtain ⟨i, hi, hm⟩ := h
      refine ⟨i, ?_, hm⟩
      have : i ≠ k := fun e' => e (by rw [← e']; exact hm)
      omega
theorem put_twice {q : Nat → Nat} {v : Nat → Int} {k : Nat} {xs : List Int} : put q v k (put q v k xs) = put q v k xs := by
  apply List.ext_getElem?
  intro m
  by_cases h : ∃ i, i < k ∧ q i = m
  · exact put_hits (put_len q v k xs) m k h
  · exact put_miss (fun i hi e => h ⟨i, hi, e⟩)
set_option maxHeartbeats 4000000 in
theorem layQ_apart {f g a b c : Int} {i j : Nat} (hf : f = 0 ∨ f = 1) (hc : cornE f g a = 0) (hb : 1 ≤ b ∧ b ≤ 6) (hc6 : 1 ≤ c ∧ c ≤ 6) (hi : i < 64) (hj : j < 64) (h : layQ f g a b i = layQ f g a c j) : b = c ∧ i = j := by
  obtain ⟨_, hg, ha, _, _⟩ := corn_ok hc
  obtain ⟨x0, x1, y0, y1⟩ := corner_bd hf hg ha
  have m16 : cornerX f g a % 16 = 0 ∧ cornerY g a % 16 = 0 := by
    unfold cornerX cornerY
    rcases hf with rfl | rfl <;> omega
  unfold layQ at h
  rw [fetI_0, fetI_0] at h
  unfold plcV plcS at h
  generalize cornerX f g a = X at *
  generalize cornerY g a = Y at *
  clear ha hg hc
  rcases hf with rfl | rfl
  · have w0 : wideS 0 = 176 := rfl
    have h0 : highS 0 = 144 := rfl
    rw [w0, h0] at h
    rw [w0] at x1; rw [h0] at y1
    by_cases hb4 : b ≤ 4 <;> by_cases hc4 : c ≤ 4
    · rw [if_pos hb4, if_pos hc4, if_pos hb4, if_pos hc4] at h
      have hb' : b = 1 ∨ b = 2 ∨ b = 3 ∨ b = 4 := by omega
      have hc' : c = 1 ∨ c = 2 ∨ c = 3 ∨ c = 4 := by omega
      rcases hb' with rfl | rfl | rfl | rfl <;> rcases hc' with rfl | rfl | rfl | rfl <;> omega
    · rw [if_pos hb4, if_neg hc4, if_pos hb4, if_neg hc4] at h
      have hc' : c = 5 ∨ c = 6 := by omega
      rcases hc' with rfl | rfl <;> omega
    · rw [if_neg hb4, if_pos hc4, if_neg hb4, if_pos hc4] at h
      have hb' : b = 5 ∨ b = 6 := by omega
      rcases hb' with rfl | rfl <;> omega
    · rw [if_neg hb4, if_neg hc4, if_neg hb4, if_neg hc4] at h
      have hb' : b = 5 ∨ b = 6 := by omega
      have hc' : c = 5 ∨ c = 6 := by omega
      rcases hb' with rfl | rfl <;> rcases hc' with rfl | rfl <;> omega
  · have w0 : wideS 1 = 352 := rfl
    have h0 : highS 1 = 288 := rfl
    rw [w0, h0] at h
    rw [w0] at x1; rw [h0] at y1
    by_cases hb4 : b ≤ 4 <;> by_cases hc4 : c ≤ 4
    · rw [if_pos hb4, if_pos hc4, if_pos hb4, if_pos hc4] at h
      have hb' : b = 1 ∨ b = 2 ∨ b = 3 ∨ b = 4 := by omega
      have hc' : c = 1 ∨ c = 2 ∨ c = 3 ∨ c = 4 := by omega
      rcases hb' with rfl | rfl | rfl | rfl <;> rcases hc' with rfl | rfl | rfl | rfl <;> omega
    · rw [if_pos hb4, if_neg hc4, if_pos hb4, if_neg hc4] at h
      have hc' : c = 5 ∨ c = 6 := by omega
      rcases hc' with rfl | rfl <;> omega
    · rw [if_neg hb4, if_pos hc4, if_neg hb4, if_pos hc4] at h
      have hb' : b = 5 ∨ b = 6 := by omega
      rcases hb' with rfl | rfl <;> omega
    · rw [if_neg hb4, if_neg hc4, if_neg hb4, if_neg hc4] at h
      have hb' : b = 5 ∨ b = 6 := by omega
      have hc' : c = 5 ∨ c = 6 := by omega
      rcases hb' with rfl | rfl <;> rcases hc' with rfl | rfl <;> omega
theorem layL_put {f g a b : Int} {xs ss : List Int} (hc : cornE f g a = 0) (hl : (xs.length : Int) = bytesS f) (hs : ss.length = 64) (hb : 1 ≤ b ∧ b ≤ 6) : layE f g a xs.length ss.length b = 0 ∧ layL f g a b xs ss = put (layQ f g a b) (fun i => ss[i]?.getD 0) 64 xs := by
  have hE : layE f g a xs.length ss.length b = 0 := by
    unfold layE; rw [if_pos hc, if_pos ⟨hl, hs⟩]; unfold plE; rw [if_pos hc, if_pos hb]
  exact ⟨hE, by unfold layL; rw [if_pos hE]⟩
theorem fits_00 {f g a : Int} (hc : cornE f g a = 0) : fitsE f g a 0 0 = 0 := by
  obtain ⟨hf, hg, ha3, hX, hY⟩ := corn_ok hc
  obtain ⟨x0, x1, y0, y1⟩ := corner_bd hf hg ha3
  unfold fitsE; rw [if_pos hc, if_pos (by decide), if_pos (by omega)]
theorem fetL_00 {f g a b : Int} {xs : List Int} (hc : cornE f g a = 0) (hl : (xs.length : Int) = bytesS f) (hb : 1 ≤ b ∧ b ≤ 6) : fetE f g a xs.length b 0 0 = 0 ∧ fetL f g a xs b 0 0 = (List.range 64).map (fun k => xs[layQ f g a b k]?.getD 0) := by
  have hE : fetE f g a xs.length b 0 0 = 0 := by
    unfold fetE; rw [if_pos hc, if_pos hl, if_pos hb, fits_00 hc]
  exact ⟨hE, by unfold fetL; rw [if_pos hE]; rfl⟩
theorem list64 {ss : List Int} (hs : ss.length = 64) : (List.range 64).map (fun k => ss[k]?.getD 0) = ss := by
  apply List.ext_getElem?
  intro k
  rw [List.getElem?_map]
  by_cases hk : k < 64
  · rw [List.getElem?_range hk, Option.map_some, List.getElem?_eq_getElem (by omega), Option.getD_some]
  · rw [List.getElem?_eq_none (by simp; omega), List.getElem?_eq_none (by omega)]; rfl
/-- What is laid is fetched again. -/
theorem back_own {f g a b : Int} {xs ss : List Int} (hf : f = 0 ∨ f = 1) (hc : cornE f g a = 0) (hl : (xs.length : Int) = bytesS f) (hs : ss.length = 64) (hb : 1 ≤ b ∧ b ≤ 6) : fetL f g a (layL f g a b xs ss) b 0 0 = ss := by
  rw [(fetL_00 hc (by rw [layL_len]; exact hl) hb).2, (layL_put hc hl hs hb).2]
  refine Eq.trans (List.map_congr_left fun k hk => ?_) (list64 hs)
  have hk' : k < 64 := by simpa using hk
  rw [put_hit hk' (fun j h1 h2 e => by have := (layQ_apart hf hc hb hb h2 hk' e).2; omega) (layQ_is hc hl hb hk').2, Option.getD_some]
/-- Another block of the same spot stays. -/
theorem back_other {f g a b c : Int} {xs ss : List Int} (hf : f = 0 ∨ f = 1) (hc : cornE f g a = 0) (hl : (xs.length : Int) = bytesS f) (hs : ss.length = 64) (hb : 1 ≤ b ∧ b ≤ 6) (hc6 : 1 ≤ c ∧ c ≤ 6) (hne : b ≠ c) : fetL f g a (layL f g a c xs ss) b 0 0 = fetL f g a xs b 0 0 := by
  rw [(fetL_00 hc (by rw [layL_len]; exact hl) hb).2, (fetL_00 hc hl hb).2, (layL_put hc hl hs hc6).2]
  refine List.map_congr_left fun k hk => ?_
  have hk' : k < 64 := by simpa using hk
  rw [put_miss (fun i hi e => hne (layQ_apart hf hc hc6 hb hi hk' e).1.symm)]
theorem back_twice {f g a b : Int} {xs ss : List Int} (hc : cornE f g a = 0) (hl : (xs.length : Int) = bytesS f) (hs : ss.length = 64) (hb : 1 ≤ b ∧ b ≤ 6) : layL f g a b (layL f g a b xs ss) ss = layL f g a b xs ss := by
  rw [(layL_put (xs := layL f g a b xs ss) hc (by rw [layL_len]; exact hl) hs hb).2, (layL_put hc hl hs hb).2, put_twice]
end Go.Proofs.Ytcieggaihelacaa
