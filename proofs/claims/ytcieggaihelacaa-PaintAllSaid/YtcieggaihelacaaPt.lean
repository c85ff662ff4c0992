/- Layer 16's statements: PaintAll, walked. -/
import Derived.Test.YtcieggaihelacaaPs
set_option linter.unusedSimpArgs false
set_option linter.unusedVariables false
namespace Go.Proofs.Ytcieggaihelacaa
open Go.RowKit
set_option maxRecDepth 100000
/-- What the loops of PaintAll keep: the pictures' blocks; what is copied agrees. -/
def PAI (f : Int) (g1 g2 : Nat) (ys : List Int) (n : Nat) (w : World) (g a : Int) (wr : World) : Prop := ∃ xs : List Int, xs.length = n ∧ St w [(g2, ys, []), (g1, xs, [])] wr ∧ Cov f g a xs ys
theorem PAI.next {f : Int} {g1 g2 : Nat} {ys : List Int} {n : Nat} {w wr : World} {g : Int} (h : PAI f g1 g2 ys n w g 34 wr) : PAI f g1 g2 ys n w (g + 1) 1 wr := by
  obtain ⟨xs, h1, h2, h3⟩ := h; exact ⟨xs, h1, h2, h3.next⟩
theorem PAI.skip {f : Int} {g1 g2 : Nat} {ys : List Int} {n : Nat} {w wr : World} {g : Int} (h : PAI f g1 g2 ys n w g 1 wr) (hn : g ∉ groupsS f) : PAI f g1 g2 ys n w (g + 1) 1 wr := by
  obtain ⟨xs, h1, h2, h3⟩ := h; exact ⟨xs, h1, h2, h3.skip hn⟩
theorem PAI.drew {f : Int} {g1 g2 : Nat} {ys : List Int} {n : Nat} {w wr : World} {g a : Int} (h : PAI f g1 g2 ys n w g a wr) (m : Nat) : PAI f g1 g2 ys n w g a (wr.drewN m) := by
  obtain ⟨xs, h1, h2, h3⟩ := h; exact ⟨xs, h1, h2.drewN m, h3⟩
/-- One spot copied. -/
theorem pai_copy {f : Int} {g1 g2 : Nat} {ys : List Int} {n : Nat} {w wr : World} {g a : Int} (h : PAI f g1 g2 ys n w g a wr) (hc : cornE f g a = 0) (hn : (n : Int) = bytesS f) (hy : ys.length = n) (hb : n ≤ 1000000) (ha : -9223372036854775808 ≤ a) (ha2 : a ≤ 9223372036854775807) :
    Calls Try.prog 56 #[.slice (some ⟨g1, 0, none⟩) n n, .slice (some ⟨g2, 0, none⟩) n n, .agg #[.int .i64 f, .int .i64 g, .int .i64 a]] wr fun e w' => e = .returned (.int .i64 0) ∧ PAI f g1 g2 ys n w g (a + 1) w' := by
  obtain ⟨xs, hx, hs, hcv⟩ := h
  have hE : cpE f g a n n = 0 := by unfold cpE; rw [if_pos hc, if_pos ⟨hn, hn⟩]
  refine (copy_n f g a g1 n xs ys [] (.slice (some ⟨g2, 0, none⟩) n n) wr (hs.pic 1 rfl) ((hs.pic 0 rfl).rdn hy hb (Nat.le_refl _)) (own_ne (hs.ne 0 1 rfl rfl (by decide))) n n hx hy (Nat.le_refl _) hb ha ha2).mono ?_
  rw [hE]
  rintro e w' ⟨rfl, hp, hg⟩
  exact ⟨rfl, cpL f g a xs ys, by rw [cpL_len, hx], hs.upd 1 rfl hg hp, hcv.step hc (by rw [hx]; exact hn) (by rw [hy]; exact hn)⟩
theorem pai_end {f : Int} {g1 g2 : Nat} {ys : List Int} {n : Nat} {w wr : World} (h : PAI f g1 g2 ys n w 13 1 wr) (hf : f = 0 ∨ f = 1) (hn : (n : Int) = bytesS f) (hy : ys.length = n) (hb : n ≤ 1000000) :
    Rd .u8 wr (.slice (some ⟨g1, 0, none⟩) n n) ys ∧ Rd .u8 wr (.slice (some ⟨g2, 0, none⟩) n n) ys ∧ Below w.heap.size w wr := by
  obtain ⟨xs, hx, hs, hcv⟩ := h
  have e := hcv.all hf (by rw [hx]; exact hn) (by rw [hy]; exact hn)
  subst e
  exact ⟨(hs.pic 1 rfl).rdn hx hb (Nat.le_refl _), (hs.pic 0 rfl).rdn hx hb (Nat.le_refl _), hs.old⟩
set_option maxHeartbeats 4000000 in
theorem paintAll_0 (f a b c : Int) (w : World) (hf0 : -9223372036854775808 ≤ f) (hf1 : f ≤ 9223372036854775807) (hff : f % 2 = 0) :
    Calls Try.prog 13 #[.int .i64 f, .int .i64 a, .int .i64 b, .int .i64 c] w fun e w' => e = .returned (.bool true) ∧ Below w.heap.size w w' := by
  have HFF := Lib.hid hff
  have hbn : (bytesS 0) = 38016 := by decide
  have HN := Lib.hid hbn
  have S0 := Lib.hid (St.nil w)
  clear hff hbn
  go_enter Try.func13, Try.ntmps13
  go_wp2_with (first
    | (go_at_call 55; refine (awake16_any _).mono ?_; rintro e w0 ⟨rfl, hb0⟩; replace S0 := Lib.hid (S0.out.below hb0); clear hb0)
    | (go_at_call 21; refine (pick_any _ _ _ (by omega) (by omega) (by decide) (by decide)).mono ?_; rw [HFF.out]; rintro e w' ⟨rfl, rfl⟩)
    | (go_at_call 20; (with_reducible refine (scene_any 0 c b w1 (by decide)).mono ?_); rintro e w2 ⟨⟨g2, n2, ys, rfl, hn2, hys, _, hg2, hp2⟩, hb2⟩; have hnn : n2 = 38016 := (by have := HN.out; omega); subst hnn; have S2 := Lib.hid (S1.out.push hb2 hg2 hp2); have HYS := Lib.hid hys; clear hn2 hys hg2 hp2 hb2)
    | (go_at_call 20; refine (scene_any 0 a b _ (by decide)).mono ?_; rintro e w1 ⟨⟨g1, n1, xs, rfl, hn1, hxs, _, hg1, hp1⟩, hb1⟩; have hnn : n1 = 38016 := (by have := HN.out; omega); subst hnn; have S1 := Lib.hid (S0.out.push hb1 hg1 hp1); have HXS := Lib.hid hxs; clear hn1 hxs hg1 hp1 hb1))
  go_loopw [12, 13] (fun i _ wr => ∃ k : Nat, 1 ≤ k ∧ k ≤ 13 ∧ i = .int .i64 k ∧ PAI 0 g1 g2 ys 38016 w k 1 wr) (fun i _ _ => 20 - (intOf i).toNat)
  case atStart => exact ⟨1, by omega, by omega, rfl, xs, HXS.out, S2.out, Cov.start _ _ _⟩
  case round =>
    obtain ⟨k, hk1, hk2, rfl, hpai⟩ := hrel
    by_cases hk : k ≤ 12
    · have hk' : (k : Int) ≤ 12 := by omega
      have hk1' : 1 ≤ (k : Int) := by omega
      have key : 5 < (k : Int) ∨ ((¬ 5 < (k : Int)) ∧ (k : Int) % 2 = 0) ∨ ((¬ 5 < (k : Int)) ∧ ((k : Int) % 2 == 0) = false) := by
        by_cases h5 : 5 < (k : Int)
        · exact .inl h5
        · by_cases h2 : (k : Int) % 2 = 0
          · exact .inr (.inl ⟨h5, h2⟩)
          · exact .inr (.inr ⟨h5, by simpa using h2⟩)
      rcases key with h5 | ⟨h5, h2⟩ | ⟨h5, h2⟩
      · have HNG : Hid ((k : Int) ∉ groupsS 0) := Lib.hid (by rw [show groupsS 0 = [1, 3, 5] from rfl]; simp; omega)
        have HP0 := Lib.hid hpai
        · go_wp2
          go_roundw
          case rel => exact ⟨k + 1, by omega, by omega, by go_num, by rw [show (((k + 1 : Nat) : Int)) = (k : Int) + 1 by omega]; exact PAI.skip hpai HNG.out⟩
          case measure => simp [intOf]; omega
      · have HNG : Hid ((k : Int) ∉ groupsS 0) := Lib.hid (by rw [show groupsS 0 = [1, 3, 5] from rfl]; simp; omega)
        have HP0 := Lib.hid hpai
        · go_wp2
          go_roundw
          case rel => exact ⟨k + 1, by omega, by omega, by go_num, by rw [show (((k + 1 : Nat) : Int)) = (k : Int) + 1 by omega]; exact PAI.skip hpai HNG.out⟩
          case measure => simp [intOf]; omega
      · have HGM : Hid ((k : Int) ∈ groupsS 0) := Lib.hid (by rw [show groupsS 0 = [1, 3, 5] from rfl]; have h3 : (k : Int) % 2 ≠ 0 := by simpa using h2
                                                              simp; omega)
        · skip
          go_wp2
          go_loopw [13] (fun i wr => ∃ j : Nat, 1 ≤ j ∧ j ≤ 34 ∧ i = .int .i64 j ∧ PAI 0 g1 g2 ys 38016 w k j wr) (fun i _ => 40 - (intOf i).toNat)
          case atStart => exact ⟨1, by omega, by omega, rfl, hpai⟩
          case round =>
            obtain ⟨j, hj1, hj2, rfl, hp2⟩ := hrel
            by_cases hj : j ≤ 33
            · have hj' : (j : Int) ≤ 33 := by omega
              have HP := Lib.hid hp2
              clear hp2 hpai
              go_wp2_with (go_at_call 56; refine (pai_copy HP.out (corn_zero (by decide) HGM.out (by omega)) (by decide) HYS.out (by decide) (by omega) (by omega)).mono ?_; rintro e w4 ⟨rfl, hp4⟩; have HP4 := Lib.hid hp4; clear hp4)
              go_roundw
              case rel => exact ⟨j + 1, by omega, by omega, by go_num, by rw [show (((j + 1 : Nat) : Int)) = (j : Int) + 1 by omega]; exact HP4.out⟩
              case measure => simp [intOf]; omega
            · have e : j = 34 := by omega
              subst e
              go_wp2
              go_roundw
              case rel => exact ⟨k + 1, by omega, by omega, by go_num, by rw [show (((k + 1 : Nat) : Int)) = (k : Int) + 1 by omega]; exact PAI.next hp2⟩
              case measure => simp [intOf]; omega
    · have e : k = 13 := by omega
      subst e
      have hend := pai_end hpai (by decide) (by decide) HYS.out (by decide)
      have HE := Lib.hid hend
      clear hend hpai
      go_wp2_with (go_at_call 25; refine (sameBytes_true _ _ ys _ HE.out.1 HE.out.2.1).mono ?_; rintro e w' ⟨rfl, rfl⟩)
      go_ret
      exact ⟨rfl, HE.out.2.2⟩
set_option maxHeartbeats 4000000 in
theorem paintAll_1 (f a b c : Int) (w : World) (hf0 : -9223372036854775808 ≤ f) (hf1 : f ≤ 9223372036854775807) (hff : f % 2 = 1) :
    Calls Try.prog 13 #[.int .i64 f, .int .i64 a, .int .i64 b, .int .i64 c] w fun e w' => e = .returned (.bool true) ∧ Below w.heap.size w w' := by
  have HFF := Lib.hid hff
  have hbn : (bytesS 1) = 152064 := by decide
  have HN := Lib.hid hbn
  have S0 := Lib.hid (St.nil w)
  clear hff hbn
  go_enter Try.func13, Try.ntmps13
  go_wp2_with (first
    | (go_at_call 55; refine (awake16_any _).mono ?_; rintro e w0 ⟨rfl, hb0⟩; replace S0 := Lib.hid (S0.out.below hb0); clear hb0)
    | (go_at_call 21; refine (pick_any _ _ _ (by omega) (by omega) (by decide) (by decide)).mono ?_; rw [HFF.out]; rintro e w' ⟨rfl, rfl⟩)
    | (go_at_call 20; (with_reducible refine (scene_any 1 c b w1 (by decide)).mono ?_); rintro e w2 ⟨⟨g2, n2, ys, rfl, hn2, hys, _, hg2, hp2⟩, hb2⟩; have hnn : n2 = 152064 := (by have := HN.out; omega); subst hnn; have S2 := Lib.hid (S1.out.push hb2 hg2 hp2); have HYS := Lib.hid hys; clear hn2 hys hg2 hp2 hb2)
    | (go_at_call 20; refine (scene_any 1 a b _ (by decide)).mono ?_; rintro e w1 ⟨⟨g1, n1, xs, rfl, hn1, hxs, _, hg1, hp1⟩, hb1⟩; have hnn : n1 = 152064 := (by have := HN.out; omega); subst hnn; have S1 := Lib.hid (S0.out.push hb1 hg1 hp1); have HXS := Lib.hid hxs; clear hn1 hxs hg1 hp1 hb1))
  go_loopw [12, 13] (fun i _ wr => ∃ k : Nat, 1 ≤ k ∧ k ≤ 13 ∧ i = .int .i64 k ∧ PAI 1 g1 g2 ys 152064 w k 1 wr) (fun i _ _ => 20 - (intOf i).toNat)
  case atStart => exact ⟨1, by omega, by omega, rfl, xs, HXS.out, S2.out, Cov.start _ _ _⟩
  case round =>
    obtain ⟨k, hk1, hk2, rfl, hpai⟩ := hrel
    by_cases hk : k ≤ 12
    · have hk' : (k : Int) ≤ 12 := by omega
      have hk1' : 1 ≤ (k : Int) := by omega
      have HGM : Hid ((k : Int) ∈ groupsS 1) := Lib.hid (by rw [show groupsS 1 = [1, 2, 3, 4, 5, 6, 7, 8, 9, 10, 11, 12] from rfl]; simp; omega)
      · · skip
          go_wp2
          go_loopw [13] (fun i wr => ∃ j : Nat, 1 ≤ j ∧ j ≤ 34 ∧ i = .int .i64 j ∧ PAI 1 g1 g2 ys 152064 w k j wr) (fun i _ => 40 - (intOf i).toNat)
          case atStart => exact ⟨1, by omega, by omega, rfl, hpai⟩
          case round =>
            obtain ⟨j, hj1, hj2, rfl, hp2⟩ := hrel
            by_cases hj : j ≤ 33
            · have hj' : (j : Int) ≤ 33 := by omega
              have HP := Lib.hid hp2
              clear hp2 hpai
              go_wp2_with (go_at_call 56; refine (pai_copy HP.out (corn_zero (by decide) HGM.out (by omega)) (by decide) HYS.out (by decide) (by omega) (by omega)).mono ?_; rintro e w4 ⟨rfl, hp4⟩; have HP4 := Lib.hid hp4; clear hp4)
              go_roundw
              case rel => exact ⟨j + 1, by omega, by omega, by go_num, by rw [show (((j + 1 : Nat) : Int)) = (j : Int) + 1 by omega]; exact HP4.out⟩
              case measure => simp [intOf]; omega
            · have e : j = 34 := by omega
              subst e
              go_wp2
              go_roundw
              case rel => exact ⟨k + 1, by omega, by omega, by go_num, by rw [show (((k + 1 : Nat) : Int)) = (k : Int) + 1 by omega]; exact PAI.next hp2⟩
              case measure => simp [intOf]; omega
    · have e : k = 13 := by omega
      subst e
      have hend := pai_end hpai (by decide) (by decide) HYS.out (by decide)
      have HE := Lib.hid hend
      clear hend hpai
      go_wp2_with (go_at_call 25; refine (sameBytes_true _ _ ys _ HE.out.1 HE.out.2.1).mono ?_; rintro e w' ⟨rfl, rfl⟩)
      go_ret
      exact ⟨rfl, HE.out.2.2⟩
theorem paintAll_any (f a b c : Int) (w : World) (hf0 : -9223372036854775808 ≤ f) (hf1 : f ≤ 9223372036854775807) :
    Calls Try.prog 13 #[.int .i64 f, .int .i64 a, .int .i64 b, .int .i64 c] w fun e w' => e = .returned (.bool true) ∧ Below w.heap.size w w' := by
  rcases (show f % 2 = 0 ∨ f % 2 = 1 by omega) with h | h
  · exact paintAll_0 f a b c w hf0 hf1 h
  · exact paintAll_1 f a b c w hf0 hf1 h
end Go.Proofs.Ytcieggaihelacaa
