/- The contracts of frame.Corner and of the document's Next, Corner, Place. -/
import Derived.Test.YtcieggaihelacaaFre
set_option linter.unusedSimpArgs false
set_option linter.unusedVariables false
namespace Go.Proofs.Ytcieggaihelacaa
open Go.RowKit
theorem groups_bd {f g : Int} (h : g ∈ groupsS f) : 1 ≤ g ∧ g ≤ 12 := by
  unfold groupsS at h
  split at h
  · simp at h; omega
  · split at h
    · simp at h; omega
    · simp at h
theorem gs_pos {f : Int} (h : f = 0 ∨ f = 1) : 0 < (groupsS f).length := by rcases h with rfl | rfl <;> decide
theorem idx_mem (x : Int) (xs : List Int) : (0 ≤ idxI x xs) = (x ∈ xs) := by
  unfold idxI
  by_cases h : x ∈ xs <;> simp [h]
theorem rnext_tells (f g : Int) (h : f = 0 ∨ f = 1) (h0 : g ≠ 0) :
    (nextE f g = 8 ∧ nextV f g = 0 ∧ g ∉ groupsS f ∧ ∀ j, j < (groupsS f).length → (groupsS f)[j]?.getD 0 ≠ g) ∨
    (nextE f g = 0 ∧ g ∈ groupsS f ∧ ∃ k : Nat, k < (groupsS f).length ∧ (groupsS f)[k]?.getD 0 = g ∧ (∀ j, j < k → (groupsS f)[j]?.getD 0 ≠ g) ∧ ((k + 1 = (groupsS f).length ∧ nextV f g = 0) ∨ (k + 1 < (groupsS f).length ∧ (groupsS f)[k + 1]?.getD 0 = nextV f g))) := by
  by_cases hm : g ∈ groupsS f
  · right
    rcases h with rfl | rfl
    · have hc : g = 1 ∨ g = 3 ∨ g = 5 := by simpa [groupsS] using hm
      rcases hc with rfl | rfl | rfl
      · exact ⟨by decide, hm, 0, by decide, by decide, by decide, by decide⟩
      · exact ⟨by decide, hm, 1, by decide, by decide, by decide, by decide⟩
      · exact ⟨by decide, hm, 2, by decide, by decide, by decide, by decide⟩
    · have hc : g = 1 ∨ g = 2 ∨ g = 3 ∨ g = 4 ∨ g = 5 ∨ g = 6 ∨ g = 7 ∨ g = 8 ∨ g = 9 ∨ g = 10 ∨ g = 11 ∨ g = 12 := by simpa [groupsS] using hm
      rcases hc with rfl | rfl | rfl | rfl | rfl | rfl | rfl | rfl | rfl | rfl | rfl | rfl
      · exact ⟨by decide, hm, 0, by decide, by decide, by decide, by decide⟩
      · exact ⟨by decide, hm, 1, by decide, by decide, by decide, by decide⟩
      · exact ⟨by decide, hm, 2, by decide, by decide, by decide, by decide⟩
      · exact ⟨by decide, hm, 3, by decide, by decide, by decide, by decide⟩
      · exact ⟨by decide, hm, 4, by decide, by decide, by decide, by decide⟩
      · exact ⟨by decide, hm, 5, by decide, by decide, by decide, by decide⟩
      · exact ⟨by decide, hm, 6, by decide, by decide, by decide, by decide⟩
      · exact ⟨by decide, hm, 7, by decide, by decide, by decide, by decide⟩
      · exact ⟨by decide, hm, 8, by decide, by decide, by decide, by decide⟩
      · exact ⟨by decide, hm, 9, by decide, by decide, by decide, by decide⟩
      · exact ⟨by decide, hm, 10, by decide, by decide, by decide, by decide⟩
      · exact ⟨by decide, hm, 11, by decide, by decide, by decide, by decide⟩
  · left
    have hn : ∀ j, j < (groupsS f).length → (groupsS f)[j]?.getD 0 ≠ g := fun j hj e => hm (by
      rw [← e]; simp [hj])
    rcases h with rfl | rfl
    · have hm' := hm
      simp [groupsS] at hm'
      exact ⟨by simp [nextE]; omega, by simp [nextV]; omega, hm, hn⟩
    · have hm' := hm
      simp [groupsS] at hm'
      exact ⟨by simp [nextE]; omega, by simp [nextV]; omega, hm, hn⟩
set_option maxRecDepth 100000 in
set_option maxHeartbeats 1000000 in
theorem rNext_any (f g : Int) (w : World) :
    Calls Try.prog 42 #[.int .i64 f, .int .i64 g] w fun e w' => e = .returned (.tuple #[.int .i64 (nextV f g), .int .i64 (nextE f g)]) ∧ Below w.heap.size w w' := by
  by_cases h : f = 0 ∨ f = 1
  · obtain ⟨_, h2⟩ := fmt_yes h
    have hl := gs_len f
    have hp := gs_pos h
    by_cases h0 : g = 0
    · subst h0
      have hV : nextV f 0 = 1 := by rcases h with rfl | rfl <;> decide
      have hE : nextE f 0 = 0 := by rcases h with rfl | rfl <;> decide
      rw [hV, hE]; clear hV hE
      go_enter Try.func42, Try.ntmps42
      go_wp2_with (go_at_call 40; refine (rGroups_any _ _).mono ?_; rintro e w1 ⟨⟨v, rfl, hown⟩, hb⟩; have hrd := Rd.of_owns hown (by omega); obtain ⟨a, c, rfl⟩ := hrd.form)
      go_ret2
      exact ⟨rfl, hb⟩
    · have ht := rnext_tells f g h h0
      have hg0 : (g == 0) = false := by simpa using h0
      generalize hE : nextE f g = E at ht
      generalize hV : nextV f g = V at ht
      clear hE hV h0 h
      rcases ht with ⟨rfl, rfl, _, hn⟩ | ⟨rfl, _, k0, hk0, hx0, hn, hv⟩
      · have HN := Lib.hid hn
        clear hn
        go_enter Try.func42, Try.ntmps42
        go_wp2_with (go_at_call 40; refine (rGroups_any _ _).mono ?_; rintro e w1 ⟨⟨v, rfl, hown⟩, hb⟩; have hrd := Rd.of_owns hown (by omega); obtain ⟨b, off, cap, rfl, _, hcap, hc⟩ := hrd.solid hp; clear hown hrd)
        go_loop [8] (fun i => ∃ k : Nat, k ≤ (groupsS f).length ∧ i = .int .i64 k) (fun i => (groupsS f).length - (intOf i).toNat)
        case atStart => exact ⟨0, by omega, rfl⟩
        case round =>
          obtain ⟨k, hk, rfl⟩ := hrel
          by_cases hlt : k < (groupsS f).length
          · have hkl : (k : Int) < ((groupsS f).length : Int) := by omega
            have hck := hc k hlt
            have hne := HN.out k (by omega)
            generalize (groupsS f)[k]?.getD 0 = y at hck hne
            have hy : (y == g) = false := by simpa using hne
            clear hne hc
            go_wp2
            go_round
            case rel => exact ⟨k + 1, by omega, by go_num⟩
            case measure => simp [intOf]; omega
          · go_wp2
            go_ret2
            exact ⟨rfl, hb⟩
      · have HN := Lib.hid hn
        have HX := Lib.hid hx0
        clear hn hx0
        go_enter Try.func42, Try.ntmps42
        go_wp2_with (go_at_call 40; refine (rGroups_any _ _).mono ?_; rintro e w1 ⟨⟨v, rfl, hown⟩, hb⟩; have hrd := Rd.of_owns hown (by omega); obtain ⟨b, off, cap, rfl, _, hcap, hc⟩ := hrd.solid hp; clear hown hrd)
        go_loop [8] (fun i => ∃ k : Nat, k ≤ k0 ∧ i = .int .i64 k) (fun i => k0 + 1 - (intOf i).toNat)
        case atStart => exact ⟨0, by omega, rfl⟩
        case round =>
          obtain ⟨k, hk, rfl⟩ := hrel
          have hkl : (k : Int) < ((groupsS f).length : Int) := by omega
          by_cases hlt0 : k < k0
          · have hlt : k < (groupsS f).length := by omega
            have hck := hc k hlt
            have hne := HN.out k (by omega)
            generalize (groupsS f)[k]?.getD 0 = y at hck hne
            have hy : (y == g) = false := by simpa using hne
            clear hne hc
            go_wp2
            go_round
            case rel => exact ⟨k + 1, by omega, by go_num⟩
            case measure => simp [intOf]; omega
          · have e : k = k0 := by omega
            subst e
            have hck := hc k hk0
            rw [HX.out] at hck
            rcases hv with ⟨he, rfl⟩ | ⟨he, hve⟩
            · have ht : ((k : Int) == ((groupsS f).length : Int) - 1) = true := by simp; omega
              clear hc he
              go_wp2
              go_ret2
              exact ⟨rfl, hb⟩
            · have ht : ((k : Int) == ((groupsS f).length : Int) - 1) = false := by simp; omega
              have hck2 := hc (k + 1) he
              rw [hve] at hck2
              have hkt : ((k : Int) + 1).toNat = k + 1 := by omega
              have hkb : (k : Int) + 1 < ((groupsS f).length : Int) := by omega
              clear hc he hve
              go_wp2
              go_ret2
              exact ⟨rfl, hb⟩
  · obtain ⟨_, h2, _⟩ := fmt_no h
    have hE : nextE f g = 3 := by unfold nextE; rw [if_neg (by omega), if_neg (by omega)]
    have hV : nextV f g = 0 := by unfold nextV; rw [if_neg (by omega), if_neg (by omega)]
    rw [hE, hV]; clear hE hV h
    go_enter Try.func42, Try.ntmps42
    go_wp2_with (go_at_call 40; refine (rGroups_any _ _).mono ?_; rintro e w' ⟨⟨v, rfl, hown⟩, hb⟩)
    go_ret2
    exact ⟨rfl, hb⟩
end Go.Proofs.Ytcieggaihelacaa
