/- The contracts of frame.Next, frame.Corner and of the document's Next, Corner, Place. -/
import Derived.Test.YtcieggaihelacaaFrd
set_option linter.unusedSimpArgs false
set_option linter.unusedVariables false
namespace Go.Proofs.Ytcieggaihelacaa
open Go.RowKit
def nextV (f g : Int) : Int := if f = 1 then (if 0 ≤ g ∧ g ≤ 11 then g + 1 else 0) else if f = 0 then (if g = 0 then 1 else if g = 1 then 3 else if g = 3 then 5 else 0) else 0
def nextE (f g : Int) : Int := if f = 1 then (if 0 ≤ g ∧ g ≤ 12 then 0 else 8) else if f = 0 then (if g = 0 ∨ g = 1 ∨ g = 3 ∨ g = 5 then 0 else 8) else 3
def nextL (f : Int) : List Int := [0] ++ groupsS f ++ [0]
theorem next_tells (f g : Int) (h : f = 0 ∨ f = 1) :
    (nextE f g = 8 ∧ nextV f g = 0 ∧ idxI g (nextL f) = -1) ∨
    (nextE f g = 0 ∧ ∃ k : Nat, idxI g (nextL f) = k ∧ k + 1 < (nextL f).length ∧ (nextL f)[k + 1]?.getD 0 = nextV f g) := by
  rcases h with rfl | rfl
  · by_cases g0 : g = 0
    · subst g0; exact Or.inr ⟨by decide, 0, by decide, by decide, by decide⟩
    by_cases g1 : g = 1
    · subst g1; exact Or.inr ⟨by decide, 1, by decide, by decide, by decide⟩
    by_cases g3 : g = 3
    · subst g3; exact Or.inr ⟨by decide, 2, by decide, by decide, by decide⟩
    by_cases g5 : g = 5
    · subst g5; exact Or.inr ⟨by decide, 3, by decide, by decide, by decide⟩
    · refine Or.inl ⟨by simp [nextE, *], by simp [nextV, *], ?_⟩
      simp [idxI, nextL, groupsS, *]
  · by_cases hg : 0 ≤ g ∧ g ≤ 12
    · have hc : g = 0 ∨ g = 1 ∨ g = 2 ∨ g = 3 ∨ g = 4 ∨ g = 5 ∨ g = 6 ∨ g = 7 ∨ g = 8 ∨ g = 9 ∨ g = 10 ∨ g = 11 ∨ g = 12 := by omega
      rcases hc with rfl | rfl | rfl | rfl | rfl | rfl | rfl | rfl | rfl | rfl | rfl | rfl | rfl
      · exact Or.inr ⟨by decide, 0, by decide, by decide, by decide⟩
      · exact Or.inr ⟨by decide, 1, by decide, by decide, by decide⟩
      · exact Or.inr ⟨by decide, 2, by decide, by decide, by decide⟩
      · exact Or.inr ⟨by decide, 3, by decide, by decide, by decide⟩
      · exact Or.inr ⟨by decide, 4, by decide, by decide, by decide⟩
      · exact Or.inr ⟨by decide, 5, by decide, by decide, by decide⟩
      · exact Or.inr ⟨by decide, 6, by decide, by decide, by decide⟩
      · exact Or.inr ⟨by decide, 7, by decide, by decide, by decide⟩
      · exact Or.inr ⟨by decide, 8, by decide, by decide, by decide⟩
      · exact Or.inr ⟨by decide, 9, by decide, by decide, by decide⟩
      · exact Or.inr ⟨by decide, 10, by decide, by decide, by decide⟩
      · exact Or.inr ⟨by decide, 11, by decide, by decide, by decide⟩
      · exact Or.inr ⟨by decide, 12, by decide, by decide, by decide⟩
    · refine Or.inl ⟨by simp [nextE]; omega, by simp [nextV]; omega, ?_⟩
      have : g ∉ nextL 1 := by simp [nextL, groupsS]; omega
      simp only [idxI, if_neg this]
theorem concat_next (f : Int) (w1 : World) (a : Option Addr) (c : Nat) (hrd : Rd .i64 w1 (.slice a (groupsS f).length c) (groupsS f)) :
    Calls Try.prog 83 #[.slice (some ⟨w1.heap.size + 1 + 1, 0, none⟩) 3 3]
      (((w1.alloc (.cells #[.int .i64 0] 3)).alloc (.cells #[.int .i64 0] 3)).alloc (.cells #[.slice (some ⟨w1.heap.size, 0, none⟩) 1 1, .slice a (groupsS f).length c, .slice (some ⟨w1.heap.size + 1, 0, none⟩) 1 1] 46))
      fun e w' => (∃ b off cap, e = .returned (.slice (some ⟨b, off, none⟩) (nextL f).length cap) ∧ Rd .i64 w' (.slice (some ⟨b, off, none⟩) (nextL f).length cap) (nextL f) ∧
        ∀ i : Nat, i < (nextL f).length → w'.cell? ⟨b, off + i, none⟩ = some (.int .i64 ((nextL f)[i]?.getD 0))) ∧ Below w1.heap.size w1 w' := by
  have hl := gs_len f
  refine (concat_any (w1.heap.size + 1 + 1) (.slice (some ⟨w1.heap.size, 0, none⟩) 1 1) (.slice a (groupsS f).length c) (.slice (some ⟨w1.heap.size + 1, 0, none⟩) 1 1) [0] (groupsS f) [0] _ (by simp) (by simp [go_sem]) (by simp [go_sem]) (by simp [go_sem]) (((Rd.new1 _ _ _ _).alloc _).alloc _) (((hrd.alloc _).alloc _).alloc _) (by have := (Rd.new1 .i64 (w1.alloc (.cells #[.int .i64 0] 3)) 0 3).alloc (.cells #[.slice (some ⟨w1.heap.size, 0, none⟩) 1 1, .slice a (groupsS f).length c, .slice (some ⟨w1.heap.size + 1, 0, none⟩) 1 1] 46); simpa using this) (by simp) (by omega) (by simp) (by simp)).mono ?_
  rintro e w' ⟨⟨v, rfl, hown⟩, hb⟩
  have hr : Rd .i64 w' v (nextL f) := Rd.of_owns hown (by simp [nextL]; omega)
  refine ⟨?_, ?_⟩
  · rcases id hr with ⟨_, h0⟩ | ⟨b, off, cap, rfl, _, _, _, hc⟩
    · simp [nextL] at h0
    · exact ⟨b, off, cap, rfl, hr, hc⟩
  · have h0 : Below w1.heap.size w1 (((w1.alloc (.cells #[.int .i64 0] 3)).alloc (.cells #[.int .i64 0] 3)).alloc (.cells #[.slice (some ⟨w1.heap.size, 0, none⟩) 1 1, .slice a (groupsS f).length c, .slice (some ⟨w1.heap.size + 1, 0, none⟩) 1 1] 46)) :=
      (((Below.refl _ w1).alloc (Nat.le_refl _) _).alloc (by simp) _).alloc (by simp; omega) _
    exact h0.trans (hb.mono (by simp; omega))
set_option maxRecDepth 100000 in
theorem Next_any (f g : Int) (w : World) :
    Calls Try.prog 41 #[.int .i64 f, .int .i64 g] w fun e w' => e = .returned (.tuple #[.int .i64 (nextV f g), .int .i64 (nextE f g)]) ∧ Below w.heap.size w w' := by
  by_cases h : f = 0 ∨ f = 1
  · obtain ⟨_, h2⟩ := fmt_yes h
    have hl := gs_len f
    have hL : (nextL f).length ≤ 14 := by simp [nextL]; omega
    have ht := next_tells f g h
    generalize hE : nextE f g = E at ht
    generalize hV : nextV f g = V at ht
    have HE := Lib.hid hE
    have HV := Lib.hid hV
    clear hE hV
    rcases ht with ⟨rfl, rfl, hi⟩ | ⟨rfl, k, hi, hk, hv⟩
    · have HI := Lib.hid hi
      clear hi
      go_enter Try.func41, Try.ntmps41
      go_wp2_with (first
        | (go_at_call 39; refine (Groups_any _ _).mono ?_; rintro e w1 ⟨⟨v, rfl, hown⟩, hb⟩; have hrd := Rd.of_owns hown (by omega); obtain ⟨a, c, rfl⟩ := hrd.form)
        | (go_at_call 83; refine (concat_next f w1 _ _ hrd).mono ?_; rintro e w2 ⟨⟨b, off, cap, rfl, hr2, hc2⟩, hb2⟩; clear hc2)
        | (go_at_call 84; refine (index_any _ _ _ _ hr2).mono ?_; rintro e w3 ⟨rfl, rfl⟩; rw [HI.out]))
      go_ret2
      exact ⟨rfl, hb.trans (hb2.mono hb.size)⟩
    · have HI := Lib.hid hi
      have HV2 := Lib.hid hv
      have hkb : (k : Int) + 1 < ((nextL f).length : Int) := by omega
      have hkt : ((k : Int) + 1).toNat = k + 1 := by omega
      clear hi hv
      go_enter Try.func41, Try.ntmps41
      go_wp2_with (first
        | (go_at_call 39; refine (Groups_any _ _).mono ?_; rintro e w1 ⟨⟨v, rfl, hown⟩, hb⟩; have hrd := Rd.of_owns hown (by omega); obtain ⟨a, c, rfl⟩ := hrd.form)
        | (go_at_call 83; refine (concat_next f w1 _ _ hrd).mono ?_; rintro e w2 ⟨⟨b, off, cap, rfl, hr2, hc2⟩, hb2⟩; have hck := hc2 (k + 1) hk; rw [HV2.out] at hck; clear hc2)
        | (go_at_call 84; refine (index_any _ _ _ _ hr2).mono ?_; rintro e w3 ⟨rfl, rfl⟩; rw [HI.out]))
      go_ret2
      exact ⟨rfl, hb.trans (hb2.mono hb.size)⟩
  · obtain ⟨_, h2, _⟩ := fmt_no h
    have hE : nextE f g = 3 := by unfold nextE; rw [if_neg (by omega), if_neg (by omega)]
    have hV : nextV f g = 0 := by unfold nextV; rw [if_neg (by omega), if_neg (by omega)]
    rw [hE, hV]; clear hE hV h
    go_enter Try.func41, Try.ntmps41
    go_wp2_with (go_at_call 39; refine (Groups_any _ _).mono ?_; rintro e w' ⟨⟨v, rfl, hown⟩, hb⟩)
    go_ret2
    exact ⟨rfl, hb⟩
end Go.Proofs.Ytcieggaihelacaa
