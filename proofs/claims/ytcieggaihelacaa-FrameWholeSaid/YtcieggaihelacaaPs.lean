/- Plain laws of a picture: every sample lies in a block of a spot; to copy spot by spot makes the pictures the same. -/
import Derived.Test.YtcieggaihelacaaPp
set_option linter.unusedSimpArgs false
set_option linter.unusedVariables false
namespace Go.Proofs.Ytcieggaihelacaa
open Go.RowKit
theorem put_agree {q : Nat → Nat} {v : Nat → Int} {xs ys : List Int} (hv : ∀ i, v i = ys[q i]?.getD 0) (hl : xs.length = ys.length) (m : Nat) : ∀ (k : Nat), (∀ i, i < k → q i < ys.length) → (xs[m]? = ys[m]? ∨ ∃ i, i < k ∧ q i = m) → (put q v k xs)[m]? = ys[m]?
  | 0, _, h => by
    rcases h with h | ⟨i, hi, _⟩
    · exact h
    · omega
  | k + 1, hq, h => by
    unfold put
    have hqk := hq k (by omega)
    by_cases e : q k = m
    · subst e
      rw [List.getElem?_set_self (by rw [put_len]; omega), hv, List.getElem?_eq_getElem hqk, Option.getD_some]
    · rw [List.getElem?_set_ne e]
      refine put_agree hv hl m k (fun i hi => hq i (by omega)) ?_
      rcases h with h | ⟨i, hi, hm⟩
      · exact .inl h
      · refine .inr ⟨i, ?_, hm⟩
        have : i ≠ k := fun e' => e (by rw [← e']; exact hm)
        omega
theorem cpN_agree {f g a : Int} {xs ys : List Int} (hl : xs.length = ys.length) (hq : ∀ (b : Int) (i : Nat), 1 ≤ b ∧ b ≤ 6 → i < 64 → layQ f g a b i < ys.length) (m : Nat) : ∀ (J : Nat), J ≤ 6 → (xs[m]? = ys[m]? ∨ ∃ j : Nat, j < J ∧ ∃ i : Nat, i < 64 ∧ layQ f g a ((j : Int) + 1) i = m) → (cpN f g a ys J xs)[m]? = ys[m]?
  | 0, _, h => by
    rcases h with h | ⟨j, hj, _⟩
    · exact h
    · omega
  | J + 1, hJ, h => by
    unfold cpN
    refine put_agree (fun _ => rfl) (by rw [cpN_len]; exact hl) m 64 (fun i hi => hq _ i (by omega) hi) ?_
    rcases h with h | ⟨j, hj, i, hi, hm⟩
    · exact .inl (cpN_agree hl hq m J (by omega) (.inl h))
    · by_cases e : j = J
      · subst e; exact .inr ⟨i, hi, hm⟩
      · exact .inl (cpN_agree hl hq m J (by omega) (.inr ⟨j, by omega, i, hi, hm⟩))
/-- All spots ahead of g, a are the same in both pictures. -/
def Cov (f g a : Int) (xs ys : List Int) : Prop := ∀ (g' a' b : Int) (i : Nat), g' ∈ groupsS f → 1 ≤ a' ∧ a' ≤ 33 → 1 ≤ b ∧ b ≤ 6 → i < 64 → (g' < g ∨ (g' = g ∧ a' < a)) → xs[layQ f g' a' b i]? = ys[layQ f g' a' b i]?
theorem Cov.start (f : Int) (xs ys : List Int) : Cov f 1 1 xs ys := fun g' a' b i hg ha hb hi h => by
  have := groups_bd hg
  omega
theorem Cov.step {f g a : Int} {xs ys : List Int} (h : Cov f g a xs ys) (hc : cornE f g a = 0) (hx : (xs.length : Int) = bytesS f) (hy : (ys.length : Int) = bytesS f) : Cov f g (a + 1) (cpL f g a xs ys) ys := by
  have hE : cpE f g a xs.length ys.length = 0 := by unfold cpE; rw [if_pos hc, if_pos ⟨hx, hy⟩]
  have hL : cpL f g a xs ys = cpN f g a ys 6 xs := by unfold cpL; rw [if_pos hE]
  intro g' a' b i hg ha hb hi hlt
  rw [hL]
  refine cpN_agree (by omega) (fun b i hb hi => (layQ_is hc hy hb hi).2) _ 6 (by omega) ?_
  by_cases e : g' = g ∧ a' = a
  · obtain ⟨rfl, rfl⟩ := e
    exact .inr ⟨(b - 1).toNat, by omega, i, hi, by rw [show (((b - 1).toNat : Nat) : Int) + 1 = b by omega]⟩
  · exact .inl (h g' a' b i hg ha hb hi (by omega))
theorem Cov.next {f g : Int} {xs ys : List Int} (h : Cov f g 34 xs ys) : Cov f (g + 1) 1 xs ys := fun g' a' b i hg ha hb hi hlt => h g' a' b i hg ha hb hi (by omega)
theorem Cov.skip {f g : Int} {xs ys : List Int} (h : Cov f g 1 xs ys) (hn : g ∉ groupsS f) : Cov f (g + 1) 1 xs ys := fun g' a' b i hg ha hb hi hlt => h g' a' b i hg ha hb hi (by
  have : g' ≠ g := fun e => hn (e ▸ hg)
  omega)
theorem lay_luma {f p q r s t u v z : Int} (hf : f = 0 ∨ f = 1) (hp : 0 ≤ p) (hq : 0 ≤ q ∧ q ≤ 2) (hr : 0 ≤ r ∧ r ≤ 1) (hs : 0 ≤ s ∧ s ≤ 7) (ht : 0 ≤ t ∧ t ≤ 1) (htf : f = 0 → t = 0) (hu : 0 ≤ u ∧ u ≤ 10) (hv : 0 ≤ v ∧ v ≤ 1) (hz : 0 ≤ z ∧ z ≤ 7) :
    (layQ f (2 * p + t + 1) (1 + 11 * q + u) (1 + 2 * r + v) (8 * s + z).toNat : Int) = (48 * p + 16 * q + 8 * r + s) * wideS f + (176 * t + 16 * u + 8 * v + z) := by
  have e1 : (1 + 11 * q + u - 1) % 11 = u := by omega
  have e2 : (1 + 11 * q + u - 1) / 11 = q := by omega
  have e3 : (2 * p + t + 1 - 1) % 2 = t := by omega
  have e4 : (2 * p + t + 1 - 1) / 2 = p := by omega
  have e5 : (1 + 2 * r + v - 1) % 2 = v := by omega
  have e6 : (1 + 2 * r + v - 1) / 2 = r := by omega
  have e7 : (((8 * s + z).toNat : Nat) : Int) / 8 = s := by omega
  have e8 : (((8 * s + z).toNat : Nat) : Int) % 8 = z := by omega
  unfold layQ
  rw [fetI_0]
  unfold plcV plcS cornerX cornerY
  rw [if_pos (by omega), if_pos (by omega), e1, e2, e3, e4, e5, e6, e7, e8]
  rcases hf with rfl | rfl
  · have w0 : wideS 0 = 176 := rfl
    rw [w0]; have := htf rfl; omega
  · have w0 : wideS 1 = 352 := rfl
    rw [w0]; omega
theorem lay_chroma {f p q s t u z c : Int} (hf : f = 0 ∨ f = 1) (hp : 0 ≤ p) (hq : 0 ≤ q ∧ q ≤ 2) (hs : 0 ≤ s ∧ s ≤ 7) (ht : 0 ≤ t ∧ t ≤ 1) (htf : f = 0 → t = 0) (hu : 0 ≤ u ∧ u ≤ 10) (hz : 0 ≤ z ∧ z ≤ 7) (hc : 0 ≤ c ∧ c ≤ 1) :
    (layQ f (2 * p + t + 1) (1 + 11 * q + u) (5 + c) (8 * s + z).toNat : Int) = wideS f * highS f + c * (wideS f * highS f / 4) + (24 * p + 8 * q + s) * (wideS f / 2) + (88 * t + 8 * u + z) := by
  have e1 : (1 + 11 * q + u - 1) % 11 = u := by omega
  have e2 : (1 + 11 * q + u - 1) / 11 = q := by omega
  have e3 : (2 * p + t + 1 - 1) % 2 = t := by omega
  have e4 : (2 * p + t + 1 - 1) / 2 = p := by omega
  have e5 : 5 + c - 5 = c := by omega
  have e7 : (((8 * s + z).toNat : Nat) : Int) / 8 = s := by omega
  have e8 : (((8 * s + z).toNat : Nat) : Int) % 8 = z := by omega
  unfold layQ
  rw [fetI_0]
  unfold plcV plcS cornerX cornerY
  rw [if_neg (by omega), if_neg (by omega), e1, e2, e3, e4, e5, e7, e8]
  rcases hf with rfl | rfl
  · have w0 : wideS 0 = 176 := rfl
    have h0 : highS 0 = 144 := rfl
    rw [w0, h0]; have := htf rfl; omega
  · have w0 : wideS 1 = 352 := rfl
    have h0 : highS 1 = 288 := rfl
    rw [w0, h0]; omega
theorem mem_groups {f p t : Int} (hf : f = 0 ∨ f = 1) (hp : 0 ≤ p) (hp0 : f = 0 → p ≤ 2) (hp1 : f = 1 → p ≤ 5) (ht : 0 ≤ t ∧ t ≤ 1) (htf : f = 0 → t = 0) : 2 * p + t + 1 ∈ groupsS f := by
  rcases hf with rfl | rfl
  · have e : groupsS 0 = [1, 3, 5] := rfl
    have := htf rfl; have := hp0 rfl
    rw [e]; simp; omega
  · have e : groupsS 1 = [1, 2, 3, 4, 5, 6, 7, 8, 9, 10, 11, 12] := rfl
    have := hp1 rfl
    rw [e]; simp; omega
theorem spot_of {f : Int} (hf : f = 0 ∨ f = 1) (m : Nat) (hm : (m : Int) < bytesS f) : ∃ (g a b : Int) (i : Nat), g ∈ groupsS f ∧ (1 ≤ a ∧ a ≤ 33) ∧ (1 ≤ b ∧ b ≤ 6) ∧ i < 64 ∧ layQ f g a b i = m := by
  rcases hf with rfl | rfl
  · have w0 : wideS 0 = 176 := rfl
    have h0 : highS 0 = 144 := rfl
    have b0 : bytesS 0 = 38016 := rfl
    rw [b0] at hm
    by_cases hl : m < 25344
    · obtain ⟨y, hy⟩ : ∃ y : Int, (m : Int) / 176 = y := ⟨_, rfl⟩
      obtain ⟨x, hx⟩ : ∃ x : Int, (m : Int) % 176 = x := ⟨_, rfl⟩
      have hyx : (m : Int) = 176 * y + x ∧ 0 ≤ y ∧ y < 144 ∧ 0 ≤ x ∧ x < 176 := by omega
      clear hy hx
      have h := lay_luma (f := 0) (p := y / 48) (q := y % 48 / 16) (r := y % 16 / 8) (s := y % 8) (t := 0) (u := x / 16) (v := x % 16 / 8) (z := x % 8) (.inl rfl) (by omega) (by omega) (by omega) (by omega) (by omega) (by omega) (by omega) (by omega) (by omega)
      exact ⟨2 * (y / 48) + 0 + 1, 1 + 11 * (y % 48 / 16) + x / 16, 1 + 2 * (y % 16 / 8) + x % 16 / 8, (8 * (y % 8) + x % 8).toNat, mem_groups (p := y / 48) (t := 0) (.inl rfl) (by omega) (by omega) (by omega) (by omega) (by omega), by omega, by omega, by omega, by rw [w0] at h; omega⟩
    · obtain ⟨c, hc⟩ : ∃ c : Int, ((m : Int) - 25344) / 6336 = c := ⟨_, rfl⟩
      obtain ⟨k, hk⟩ : ∃ k : Int, ((m : Int) - 25344) % 6336 = k := ⟨_, rfl⟩
      have hck : (m : Int) = 25344 + 6336 * c + k ∧ 0 ≤ c ∧ c ≤ 1 ∧ 0 ≤ k ∧ k < 6336 := by omega
      clear hc hk
      obtain ⟨y, hy⟩ : ∃ y : Int, k / 88 = y := ⟨_, rfl⟩
      obtain ⟨x, hx⟩ : ∃ x : Int, k % 88 = x := ⟨_, rfl⟩
      have hyx : k = 88 * y + x ∧ 0 ≤ y ∧ y < 72 ∧ 0 ≤ x ∧ x < 88 := by omega
      clear hy hx
      have h := lay_chroma (f := 0) (p := y / 24) (q := y % 24 / 8) (s := y % 8) (t := 0) (u := x / 8) (z := x % 8) (c := c) (.inl rfl) (by omega) (by omega) (by omega) (by omega) (by omega) (by omega) (by omega) (by omega)
      exact ⟨2 * (y / 24) + 0 + 1, 1 + 11 * (y % 24 / 8) + x / 8, 5 + c, (8 * (y % 8) + x % 8).toNat, mem_groups (p := y / 24) (t := 0) (.inl rfl) (by omega) (by omega) (by omega) (by omega) (by omega), by omega, by omega, by omega, by rw [w0, h0] at h; omega⟩
  · have w0 : wideS 1 = 352 := rfl
    have h0 : highS 1 = 288 := rfl
    have b0 : bytesS 1 = 152064 := rfl
    rw [b0] at hm
    by_cases hl : m < 101376
    · obtain ⟨y, hy⟩ : ∃ y : Int, (m : Int) / 352 = y := ⟨_, rfl⟩
      obtain ⟨x, hx⟩ : ∃ x : Int, (m : Int) % 352 = x := ⟨_, rfl⟩
      have hyx : (m : Int) = 352 * y + x ∧ 0 ≤ y ∧ y < 288 ∧ 0 ≤ x ∧ x < 352 := by omega
      clear hy hx
      have h := lay_luma (f := 1) (p := y / 48) (q := y % 48 / 16) (r := y % 16 / 8) (s := y % 8) (t := x / 176) (u := x % 176 / 16) (v := x % 16 / 8) (z := x % 8) (.inr rfl) (by omega) (by omega) (by omega) (by omega) (by omega) (by omega) (by omega) (by omega) (by omega)
      exact ⟨2 * (y / 48) + x / 176 + 1, 1 + 11 * (y % 48 / 16) + x % 176 / 16, 1 + 2 * (y % 16 / 8) + x % 16 / 8, (8 * (y % 8) + x % 8).toNat, mem_groups (p := y / 48) (t := x / 176) (.inr rfl) (by omega) (by omega) (by omega) (by omega) (by omega), by omega, by omega, by omega, by rw [w0] at h; omega⟩
    · obtain ⟨c, hc⟩ : ∃ c : Int, ((m : Int) - 101376) / 25344 = c := ⟨_, rfl⟩
      obtain ⟨k, hk⟩ : ∃ k : Int, ((m : Int) - 101376) % 25344 = k := ⟨_, rfl⟩
      have hck : (m : Int) = 101376 + 25344 * c + k ∧ 0 ≤ c ∧ c ≤ 1 ∧ 0 ≤ k ∧ k < 25344 := by omega
      clear hc hk
      obtain ⟨y, hy⟩ : ∃ y : Int, k / 176 = y := ⟨_, rfl⟩
      obtain ⟨x, hx⟩ : ∃ x : Int, k % 176 = x := ⟨_, rfl⟩
      have hyx : k = 176 * y + x ∧ 0 ≤ y ∧ y < 144 ∧ 0 ≤ x ∧ x < 176 := by omega
      clear hy hx
      have h := lay_chroma (f := 1) (p := y / 24) (q := y % 24 / 8) (s := y % 8) (t := x / 88) (u := x % 88 / 8) (z := x % 8) (c := c) (.inr rfl) (by omega) (by omega) (by omega) (by omega) (by omega) (by omega) (by omega) (by omega)
      exact ⟨2 * (y / 24) + x / 88 + 1, 1 + 11 * (y % 24 / 8) + x % 88 / 8, 5 + c, (8 * (y % 8) + x % 8).toNat, mem_groups (p := y / 24) (t := x / 88) (.inr rfl) (by omega) (by omega) (by omega) (by omega) (by omega), by omega, by omega, by omega, by rw [w0, h0] at h; omega⟩
theorem Cov.all {f : Int} {xs ys : List Int} (hf : f = 0 ∨ f = 1) (h : Cov f 13 1 xs ys) (hx : (xs.length : Int) = bytesS f) (hy : (ys.length : Int) = bytesS f) : xs = ys := by
  apply List.ext_getElem?
  intro m
  by_cases hm : m < xs.length
  · obtain ⟨g, a, b, i, hg, ha, hb, hi, e⟩ := spot_of hf m (by omega)
    have := h g a b i hg ha hb hi (by have := groups_bd hg; omega)
    rw [e] at this
    exact this
  · rw [List.getElem?_eq_none (by omega), List.getElem?_eq_none (by omega)]
theorem corn_zero {f g a : Int} (h : f = 0 ∨ f = 1) (hg : g ∈ groupsS f) (ha : 1 ≤ a ∧ a ≤ 33) : cornE f g a = 0 := by unfold cornE; rw [if_pos h, if_pos hg, if_pos ha]
end Go.Proofs.Ytcieggaihelacaa
