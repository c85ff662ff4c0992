/- Layer 13's FrameWhole: the marks, block by block; each place of a picture belongs to one block alone. -/
import Derived.Test.YtcieggaihelacaaFwa
set_option linter.unusedSimpArgs false
set_option linter.unusedVariables false
namespace Go.Proofs.Ytcieggaihelacaa
open Go.RowKit
set_option maxRecDepth 100000
theorem dig {m a b a' b' : Int} (h : m * a + b = m * a' + b') (h0 : 0 ≤ b) (h1 : b < m) (h2 : 0 ≤ b') (h3 : b' < m) : a = a' ∧ b = b' := by
  have e : (m * a + b) / m = a := by rw [Int.add_comm, Int.add_mul_ediv_left _ _ (by omega), Int.ediv_eq_zero_of_lt h0 h1]; omega
  have e' : (m * a' + b') / m = a' := by rw [Int.add_comm, Int.add_mul_ediv_left _ _ (by omega), Int.ediv_eq_zero_of_lt h2 h3]; omega
  have hh : a = a' := by rw [← e, ← e', h]
  subst hh
  exact ⟨rfl, by omega⟩
theorem digits {f g a : Int} {i : Nat} (hf : f = 0 ∨ f = 1) (hg : g ∈ groupsS f) (ha : 1 ≤ a ∧ a ≤ 33) (hi : i < 64) :
    ∃ p t q u s z : Int, g = 2 * p + t + 1 ∧ a = 1 + 11 * q + u ∧ i = (8 * s + z).toNat ∧ 0 ≤ p ∧ (f = 0 → p ≤ 2) ∧ p ≤ 5 ∧ (0 ≤ t ∧ t ≤ 1) ∧ (f = 0 → t = 0) ∧ (0 ≤ q ∧ q ≤ 2) ∧ (0 ≤ u ∧ u ≤ 10) ∧ (0 ≤ s ∧ s ≤ 7) ∧ (0 ≤ z ∧ z ≤ 7) := by
  have hb := groups_bd hg
  have h0 : f = 0 → g = 1 ∨ g = 3 ∨ g = 5 := fun e => by subst e; simpa [groupsS] using hg
  refine ⟨(g - 1) / 2, (g - 1) % 2, (a - 1) / 11, (a - 1) % 11, (i : Int) / 8, (i : Int) % 8, by omega, by omega, by omega, by omega, fun e => ?_, by omega, by omega, fun e => ?_, by omega, by omega, by omega, by omega⟩
  · rcases h0 e with rfl | rfl | rfl <;> decide
  · rcases h0 e with rfl | rfl | rfl <;> decide
theorem luma_form {f g a b : Int} {i : Nat} (hf : f = 0 ∨ f = 1) (hg : g ∈ groupsS f) (ha : 1 ≤ a ∧ a ≤ 33) (hb : 1 ≤ b ∧ b ≤ 4) (hi : i < 64) :
    ∃ y x : Int, (layQ f g a b i : Int) = wideS f * y + x ∧ 0 ≤ y ∧ y < highS f ∧ 0 ≤ x ∧ x < wideS f ∧ ∃ p q r s t u v z : Int, g = 2 * p + t + 1 ∧ a = 1 + 11 * q + u ∧ b = 1 + 2 * r + v ∧ i = (8 * s + z).toNat ∧ y = 48 * p + (16 * q + (8 * r + s)) ∧ x = 176 * t + (16 * u + (8 * v + z)) ∧ (0 ≤ q ∧ q ≤ 2) ∧ (0 ≤ r ∧ r ≤ 1) ∧ (0 ≤ s ∧ s ≤ 7) ∧ (0 ≤ t ∧ t ≤ 1) ∧ (0 ≤ u ∧ u ≤ 10) ∧ (0 ≤ v ∧ v ≤ 1) ∧ (0 ≤ z ∧ z ≤ 7) := by
  obtain ⟨p, t, q, u, s, z, rfl, rfl, rfl, hp, hp0, hp5, ht, ht0, hq, hu, hs, hz⟩ := digits hf hg ha hi
  obtain ⟨r, v, rfl, hr, hv⟩ : ∃ r v : Int, b = 1 + 2 * r + v ∧ (0 ≤ r ∧ r ≤ 1) ∧ (0 ≤ v ∧ v ≤ 1) := ⟨(b - 1) / 2, (b - 1) % 2, by omega, by omega, by omega⟩
  have h := lay_luma hf hp hq hr hs ht ht0 hu hv hz
  refine ⟨48 * p + (16 * q + (8 * r + s)), 176 * t + (16 * u + (8 * v + z)), ?_, by omega, ?_, by omega, ?_, p, q, r, s, t, u, v, z, rfl, rfl, rfl, rfl, rfl, rfl, hq, hr, hs, ht, hu, hv, hz⟩
  · rw [h, Int.mul_comm]
    congr 1
    · congr 1; omega
    · omega
  · rcases hf with rfl | rfl
    · have h0 : highS 0 = 144 := rfl
      have := hp0 rfl; omega
    · have h0 : highS 1 = 288 := rfl
      omega
  · rcases hf with rfl | rfl
    · have h0 : wideS 0 = 176 := rfl
      have := ht0 rfl; omega
    · have h0 : wideS 1 = 352 := rfl
      omega
theorem chroma_form {f g a b : Int} {i : Nat} (hf : f = 0 ∨ f = 1) (hg : g ∈ groupsS f) (ha : 1 ≤ a ∧ a ≤ 33) (hb : 5 ≤ b ∧ b ≤ 6) (hi : i < 64) :
    ∃ y x : Int, (layQ f g a b i : Int) = wideS f * highS f + ((wideS f * highS f / 4) * (b - 5) + ((wideS f / 2) * y + x)) ∧ 0 ≤ y ∧ y < highS f / 2 ∧ 0 ≤ x ∧ x < wideS f / 2 ∧ ∃ p q s t u z : Int, g = 2 * p + t + 1 ∧ a = 1 + 11 * q + u ∧ i = (8 * s + z).toNat ∧ y = 24 * p + (8 * q + s) ∧ x = 88 * t + (8 * u + z) ∧ (0 ≤ q ∧ q ≤ 2) ∧ (0 ≤ s ∧ s ≤ 7) ∧ (0 ≤ t ∧ t ≤ 1) ∧ (0 ≤ u ∧ u ≤ 10) ∧ (0 ≤ z ∧ z ≤ 7) := by
  obtain ⟨p, t, q, u, s, z, rfl, rfl, rfl, hp, hp0, hp5, ht, ht0, hq, hu, hs, hz⟩ := digits hf hg ha hi
  obtain ⟨c, rfl, hc⟩ : ∃ c : Int, b = 5 + c ∧ 0 ≤ c ∧ c ≤ 1 := ⟨b - 5, by omega, by omega, by omega⟩
  have h := lay_chroma hf hp hq hs ht ht0 hu hz hc
  have e5 : 5 + c - 5 = c := by omega
  refine ⟨24 * p + (8 * q + s), 88 * t + (8 * u + z), ?_, by omega, ?_, by omega, ?_, p, q, s, t, u, z, rfl, rfl, rfl, rfl, rfl, hq, hs, ht, hu, hz⟩
  · rw [h, e5]
    rcases hf with rfl | rfl
    · have w0 : wideS 0 = 176 := rfl
      have h0 : highS 0 = 144 := rfl
      rw [w0, h0]; omega
    · have w0 : wideS 1 = 352 := rfl
      have h0 : highS 1 = 288 := rfl
      rw [w0, h0]; omega
  · rcases hf with rfl | rfl
    · have h0 : highS 0 = 144 := rfl
      have := hp0 rfl; omega
    · have h0 : highS 1 = 288 := rfl
      omega
  · rcases hf with rfl | rfl
    · have h0 : wideS 0 = 176 := rfl
      have := ht0 rfl; omega
    · have h0 : wideS 1 = 352 := rfl
      omega
theorem luma_chroma {f y x c y' x' : Int} (hf : f = 0 ∨ f = 1) (h1 : 0 ≤ y) (h2 : y < highS f) (h3 : 0 ≤ x) (h4 : x < wideS f) (hc : 0 ≤ c ∧ c ≤ 1) (h5 : 0 ≤ y') (h6 : 0 ≤ x')
    (h : wideS f * y + x = wideS f * highS f + ((wideS f * highS f / 4) * c + ((wideS f / 2) * y' + x'))) : False := by
  rcases hf with rfl | rfl
  · have w0 : wideS 0 = 176 := rfl
    have h0 : highS 0 = 144 := rfl
    rw [w0, h0] at h
    omega
  · have w0 : wideS 1 = 352 := rfl
    have h0 : highS 1 = 288 := rfl
    rw [w0, h0] at h
    omega
theorem chroma_bd {f y x : Int} (hf : f = 0 ∨ f = 1) (a1 : 0 ≤ y) (a2 : y < highS f / 2) (a3 : 0 ≤ x) (a4 : x < wideS f / 2) : 0 ≤ (wideS f / 2) * y + x ∧ (wideS f / 2) * y + x < wideS f * highS f / 4 := by
  rcases hf with rfl | rfl
  · have w0 : wideS 0 = 176 := rfl
    have h0 : highS 0 = 144 := rfl
    rw [h0] at a2
    rw [w0] at a4
    rw [w0, h0]
    omega
  · have w0 : wideS 1 = 352 := rfl
    have h0 : highS 1 = 288 := rfl
    rw [h0] at a2
    rw [w0] at a4
    rw [w0, h0]
    omega
theorem layQ_inj {f g a b g' a' b' : Int} {i i' : Nat} (hf : f = 0 ∨ f = 1) (hg : g ∈ groupsS f) (ha : 1 ≤ a ∧ a ≤ 33) (hb : 1 ≤ b ∧ b ≤ 6) (hi : i < 64) (hg' : g' ∈ groupsS f) (ha' : 1 ≤ a' ∧ a' ≤ 33) (hb' : 1 ≤ b' ∧ b' ≤ 6) (hi' : i' < 64)
    (h : layQ f g a b i = layQ f g' a' b' i') : g = g' ∧ a = a' ∧ b = b' ∧ i = i' := by
  have hI : (layQ f g a b i : Int) = (layQ f g' a' b' i' : Int) := by rw [h]
  by_cases h4 : b ≤ 4
  · obtain ⟨y, x, e, y0, y1, x0, x1, p, q, r, s, t, u, v, z, rfl, rfl, rfl, rfl, hy, hx, hq, hr, hs, ht, hu, hv, hz⟩ := luma_form hf hg ha ⟨hb.1, h4⟩ hi
    by_cases h4' : b' ≤ 4
    · obtain ⟨y', x', e', y0', y1', x0', x1', p', q', r', s', t', u', v', z', rfl, rfl, rfl, rfl, hy', hx', hq', hr', hs', ht', hu', hv', hz'⟩ := luma_form hf hg' ha' ⟨hb'.1, h4'⟩ hi'
      rw [e, e'] at hI
      obtain ⟨ey, ex⟩ := dig hI x0 x1 x0' x1'
      rw [hy, hy'] at ey
      rw [hx, hx'] at ex
      obtain ⟨e1, e2⟩ := dig ey (by omega) (by omega) (by omega) (by omega)
      obtain ⟨e3, e4⟩ := dig e2 (by omega) (by omega) (by omega) (by omega)
      obtain ⟨e5, e6⟩ := dig e4 (by omega) (by omega) (by omega) (by omega)
      obtain ⟨e7, e8⟩ := dig ex (by omega) (by omega) (by omega) (by omega)
      obtain ⟨e9, e10⟩ := dig e8 (by omega) (by omega) (by omega) (by omega)
      obtain ⟨e11, e12⟩ := dig e10 (by omega) (by omega) (by omega) (by omega)
      subst e1 e3 e5 e6 e7 e9 e11 e12
      exact ⟨rfl, rfl, rfl, rfl⟩
    · obtain ⟨y', x', e', y0', y1', x0', x1', _⟩ := chroma_form hf hg' ha' ⟨by omega, hb'.2⟩ hi'
      rw [e, e'] at hI
      exact (luma_chroma hf y0 y1 x0 x1 (by omega) y0' x0' hI).elim
  · obtain ⟨y, x, e, y0, y1, x0, x1, p, q, s, t, u, z, rfl, rfl, rfl, hy, hx, hq, hs, ht, hu, hz⟩ := chroma_form hf hg ha ⟨by omega, hb.2⟩ hi
    by_cases h4' : b' ≤ 4
    · obtain ⟨y', x', e', y0', y1', x0', x1', _⟩ := luma_form hf hg' ha' ⟨hb'.1, h4'⟩ hi'
      rw [e, e'] at hI
      exact (luma_chroma hf y0' y1' x0' x1' (by omega) y0 x0 hI.symm).elim
    · obtain ⟨y', x', e', y0', y1', x0', x1', p', q', s', t', u', z', rfl, rfl, rfl, hy', hx', hq', hs', ht', hu', hz'⟩ := chroma_form hf hg' ha' ⟨by omega, hb'.2⟩ hi'
      rw [e, e'] at hI
      have hin : (wideS f * highS f / 4) * (b - 5) + ((wideS f / 2) * y + x) = (wideS f * highS f / 4) * (b' - 5) + ((wideS f / 2) * y' + x') := by omega
      obtain ⟨b1, b2⟩ := chroma_bd hf y0 y1 x0 x1
      obtain ⟨b3, b4⟩ := chroma_bd hf y0' y1' x0' x1'
      obtain ⟨ec, er⟩ := dig hin b1 b2 b3 b4
      obtain ⟨ey, ex⟩ := dig er x0 x1 x0' x1'
      rw [hy, hy'] at ey
      rw [hx, hx'] at ex
      obtain ⟨e1, e2⟩ := dig ey (by omega) (by omega) (by omega) (by omega)
      obtain ⟨e3, e4⟩ := dig e2 (by omega) (by omega) (by omega) (by omega)
      obtain ⟨e7, e8⟩ := dig ex (by omega) (by omega) (by omega) (by omega)
      obtain ⟨e9, e10⟩ := dig e8 (by omega) (by omega) (by omega) (by omega)
      subst e1 e3 e4 e7 e9 e10
      exact ⟨rfl, rfl, by omega, rfl⟩
/-- The blocks ahead of g, a, b are marked, the others are not. -/
def Lexl (g' a' b' g a b : Int) : Prop := g' < g ∨ (g' = g ∧ (a' < a ∨ (a' = a ∧ b' < b)))
def Mk (f g a b : Int) (n : Nat) (bs : List Bool) : Prop := bs.length = n ∧ ∀ (g' a' b' : Int) (i : Nat), g' ∈ groupsS f → 1 ≤ a' ∧ a' ≤ 33 → 1 ≤ b' ∧ b' ≤ 6 → i < 64 →
  (Lexl g' a' b' g a b → bs[layQ f g' a' b' i]?.getD false = true) ∧ (¬ Lexl g' a' b' g a b → bs[layQ f g' a' b' i]?.getD false = false)
theorem Mk.start (f : Int) (n : Nat) : Mk f 1 1 1 n (List.replicate n false) := ⟨by simp, fun g' a' b' i hg ha hb hi => ⟨fun h => by
    have := groups_bd hg
    unfold Lexl at h; omega, fun _ => by
    rw [List.getElem?_replicate]; split <;> rfl⟩⟩
theorem Mk.step {f g a b : Int} {n : Nat} {bs : List Bool} (h : Mk f g a b n bs) (hf : f = 0 ∨ f = 1) (hg : g ∈ groupsS f) (ha : 1 ≤ a ∧ a ≤ 33) (hb : 1 ≤ b ∧ b ≤ 6) (hn : (n : Int) = bytesS f) : Mk f g a (b + 1) n (mark (layQ f g a b) 64 bs) := by
  refine ⟨by rw [mark_len]; exact h.1, fun g' a' b' i hg' ha' hb' hi => ?_⟩
  have hlt := (layQ_is (corn_zero hf hg' ha') hn hb' hi).2
  obtain ⟨h1, h2⟩ := h.2 g' a' b' i hg' ha' hb' hi
  by_cases hit : ∃ j, j < 64 ∧ layQ f g a b j = layQ f g' a' b' i
  · obtain ⟨j, hj, e⟩ := hit
    obtain ⟨rfl, rfl, rfl, rfl⟩ := layQ_inj hf hg ha hb hj hg' ha' hb' hi e
    refine ⟨fun _ => mark_hit 64 ⟨j, hj, rfl⟩ (by rw [h.1]; exact hlt), fun hn => absurd ?_ hn⟩
    unfold Lexl; omega
  · rw [mark_miss 64 (fun j hj e => hit ⟨j, hj, e⟩)]
    have hne : ¬ (g' = g ∧ a' = a ∧ b' = b) := fun ⟨e1, e2, e3⟩ => hit ⟨i, hi, by rw [e1, e2, e3]⟩
    refine ⟨fun hl => h1 ?_, fun hl => h2 ?_⟩
    · unfold Lexl at *; omega
    · unfold Lexl at *; omega
theorem Mk.nextA {f g a : Int} {n : Nat} {bs : List Bool} (h : Mk f g a 7 n bs) : Mk f g (a + 1) 1 n bs := ⟨h.1, fun g' a' b' i hg ha hb hi => ⟨fun hl => (h.2 g' a' b' i hg ha hb hi).1 (by unfold Lexl at *; omega), fun hl => (h.2 g' a' b' i hg ha hb hi).2 (by unfold Lexl at *; omega)⟩⟩
theorem Mk.nextG {f g k : Int} {n : Nat} {bs : List Bool} (h : Mk f g 34 1 n bs) (hk : ∀ g' ∈ groupsS f, g' < k ↔ g' ≤ g) : Mk f k 1 1 n bs := ⟨h.1, fun g' a' b' i hg ha hb hi => by
  have := hk g' hg
  exact ⟨fun hl => (h.2 g' a' b' i hg ha hb hi).1 (by unfold Lexl at *; omega), fun hl => (h.2 g' a' b' i hg ha hb hi).2 (by unfold Lexl at *; omega)⟩⟩
theorem Mk.all {f k : Int} {n : Nat} {bs : List Bool} (h : Mk f k 1 1 n bs) (hf : f = 0 ∨ f = 1) (hn : (n : Int) = bytesS f) (hk : ∀ g' ∈ groupsS f, g' < k) (m : Nat) (hm : m < n) : bs[m]?.getD false = true := by
  obtain ⟨g, a, b, i, hg, ha, hb, hi, e⟩ := spot_of hf m (by omega)
  rw [← e]
  exact (h.2 g a b i hg ha hb hi).1 (.inl (hk g hg))
end Go.Proofs.Ytcieggaihelacaa
