/- Layer 14's statement MotionShared, walked: neighbouring blocks fetch the same. -/
import Derived.Test.YtcieggaihelacaaMos
import Derived.Test.YtcieggaihelacaaFro
set_option linter.unusedSimpArgs false
set_option linter.unusedVariables false
namespace Go.Proofs.Ytcieggaihelacaa
open Go.RowKit
set_option maxRecDepth 100000
theorem fetE_zero {f g a b x y : Int} {n : Nat} (hf : f = 0 ∨ f = 1) (hg : g ∈ groupsS f) (ha : 1 ≤ a ∧ a ≤ 33) (hn : (n : Int) = bytesS f) (hb : 1 ≤ b ∧ b ≤ 6) (hfit : fitsE f g a x y = 0) : fetE f g a n b x y = 0 := by
  unfold fetE; rw [if_pos (corn_val hf hg ha).1, if_pos hn, if_pos hb, hfit]
theorem shared_x {f g a k x y : Int} {xs : List Int} (h1 : fetE f g a xs.length k x y = 0) (h2 : fetE f g a xs.length (k + 1) (x - 8) y = 0) (hk : k = 1 ∨ k = 3) : fetL f g a xs (k + 1) (x - 8) y = fetL f g a xs k x y := by
  rw [fetL_len h1, fetL_len h2]
  refine List.map_congr_left fun j hj => ?_
  have e : fetI f g a (k + 1) (x - 8) y j = fetI f g a k x y j := by
    unfold fetI sxS plcV plcS
    generalize cornerX f g a = X
    generalize cornerY g a = Y
    generalize wideS f = W
    generalize highS f = H
    rcases hk with rfl | rfl
    · simp; omega
    · simp; omega
  rw [e]
theorem shared_y {f g a k x y : Int} {xs : List Int} (hf : f = 0 ∨ f = 1) (h1 : fetE f g a xs.length k x y = 0) (h2 : fetE f g a xs.length (k + 2) x (y - 8) = 0) (hk : k = 1 ∨ k = 2) : fetL f g a xs (k + 2) x (y - 8) = fetL f g a xs k x y := by
  rw [fetL_len h1, fetL_len h2]
  refine List.map_congr_left fun j hj => ?_
  have e : fetI f g a (k + 2) x (y - 8) j = fetI f g a k x y j := by
    unfold fetI sxS plcV plcS
    generalize cornerX f g a = X
    generalize cornerY g a = Y
    have hW : wideS f = 176 ∨ wideS f = 352 := by rcases hf with rfl | rfl <;> decide
    generalize wideS f = W at *
    generalize highS f = H
    rcases hk with rfl | rfl <;> rcases hW with rfl | rfl
    all_goals (simp; omega)
  rw [e]
set_option maxHeartbeats 16000000 in
theorem motionShared_any (x0 x1 x2 x4 x5 x6 x7 : Int) (w : World) (h0 : -9223372036854775808 ≤ x0 ∧ x0 ≤ 9223372036854775807) (h1 : -9223372036854775808 ≤ x1 ∧ x1 ≤ 9223372036854775807) (h2 : -9223372036854775808 ≤ x2 ∧ x2 ≤ 9223372036854775807) (h4 : -9223372036854775808 ≤ x4 ∧ x4 ≤ 9223372036854775807) (h5 : -9223372036854775808 ≤ x5 ∧ x5 ≤ 9223372036854775807) :
    Calls Try.prog 6 #[.int .i64 x0, .int .i64 x1, .int .i64 x2, .int .i64 x4, .int .i64 x5, .int .i64 x6, .int .i64 x7] w fun e w' => e = .returned (.bool true) ∧ Below w.heap.size w w' := by
  obtain ⟨X, hx⟩ : ∃ X, x4 % 31 = X + 15 := ⟨x4 % 31 - 15, by omega⟩
  obtain ⟨Y, hy⟩ : ∃ Y, x5 % 31 = Y + 15 := ⟨x5 % 31 - 15, by omega⟩
  have hxb : -15 ≤ X ∧ X ≤ 15 := by omega
  have hyb : -15 ≤ Y ∧ Y ≤ 15 := by omega
  have HP := Lib.hid (And.intro hx hy)
  obtain ⟨qa, hqa⟩ : ∃ qa, x2 % 33 = qa := ⟨_, rfl⟩
  have hqb : 0 ≤ qa ∧ qa ≤ 32 := by omega
  have hs := spot_any x0 x1 x2
  rw [hqa] at hs
  have HS := Lib.hid hs
  clear hx hy hs hqa
  go_enter Try.func6, Try.ntmps6
  go_wp2_with (first
    | (go_at_call 30; refine (awake14_any _).mono ?_; rintro e w1 ⟨rfl, hb1⟩; have HB1 := Lib.hid hb1; clear hb1)
    | (go_at_call 36; refine (HS.out _ h0.1 h0.2 h1.1 h1.2 h2.1 h2.2).mono ?_; rintro e w2 ⟨⟨f, g, rfl, hfx, hf, hg⟩, hb2⟩; have HL2 := Lib.hid ((Lies.nil w2).alloc (Obj.cells #[.int .i64 f, .int .i64 g, .int .i64 (1 + qa)] 23)); have HB2 := Lib.hid ((below_nxt HB1.out hb2).alloc (below_nxt HB1.out hb2).size (Obj.cells #[.int .i64 f, .int .i64 g, .int .i64 (1 + qa)] 23)); clear hfx hb2)
    | (go_at_call 21; refine (pick_any _ _ _ (by omega) (by omega) (by decide) (by decide)).mono ?_; (first | rw [HP.out.1] | rw [HP.out.2]); rintro e w' ⟨rfl, rfl⟩)
    | (go_at_call 20; refine (scene_any f x6 x7 _ hf).mono ?_; rintro e w3 ⟨⟨gs, n, xs, rfl, hns, hxs, hby, hgs, hp3⟩, hb3⟩; have hnb : n ≤ 152064 := (by clear hxs hby hgs hp3 hb3; rcases hf with rfl | rfl <;> simp [bytesS] at hns <;> omega); have HN3 := Lib.hid hns; have hr3 := hp3.rd (by omega) (c := n) (by omega); rw [hxs] at hr3; have HR := Lib.hid hr3; have HXS := Lib.hid hxs; have HL := Lib.hid (HL2.out.next hb3); have HB := Lib.hid (below_nxt HB2.out hb3); clear hns hxs hp3 hby hb3 hr3; have k0 := HL.out.head; have c0 := blk_cell k0 0; have c1 := blk_cell k0 1; have c2 := blk_cell k0 2; simp only [List.getElem?_toArray, List.getElem?_cons_zero, List.getElem?_cons_succ] at c0 c1 c2; clear k0))
  obtain ⟨F0, hF0⟩ : ∃ F0, fitsE f g (1 + qa) X Y = F0 := ⟨_, rfl⟩
  have HF0 := Lib.hid hF0
  clear hF0
  refine (fits_any _ _ _ _ _ _ (by omega) (by omega) (by omega) (by omega) (by omega) (by omega)).mono ?_
  rw [HF0.out]
  rintro e w4 ⟨rfl, hb4⟩
  replace HL := Lib.hid (HL.out.next hb4)
  replace HR := Lib.hid (HR.out.below hb4)
  replace HB := Lib.hid (below_nxt HB.out hb4)
  clear hb4 c0 c1 c2
  by_cases hfit : F0 = 0
  · subst hfit
    have hA : 1 ≤ 1 + qa ∧ 1 + qa ≤ 33 := by omega
    obtain ⟨F1, hF1⟩ : ∃ F1, fitsE f g (1 + qa) (X - 8) Y = F1 := ⟨_, rfl⟩
    obtain ⟨F2, hF2⟩ : ∃ F2, fitsE f g (1 + qa) X (Y - 8) = F2 := ⟨_, rfl⟩
    have HF1 := Lib.hid hF1
    have HF2 := Lib.hid hF2
    have HLs := Lib.hid HL.out
    have HBs := Lib.hid HB.out
    have HRs := Lib.hid HR.out
    clear hF1 hF2 HL2 HB2 HB1 HL HB HR
    go_wp2
    go_loopw [18, 19, 20, 21, 22, 23, 24] (fun i _ _ _ _ _ _ wr => ∃ k : Nat, 1 ≤ k ∧ k ≤ 5 ∧ i = .int .i64 k ∧ Lies [(w2.heap.size, Obj.cells #[.int .i64 f, .int .i64 g, .int .i64 (1 + qa)] 23)] wr ∧ Rd .u8 wr (.slice (some ⟨gs, 0, none⟩) n n) xs ∧ Below w.heap.size w wr) (fun i _ _ _ _ _ _ _ => 10 - (intOf i).toNat)
    case atStart => exact ⟨1, by omega, by omega, rfl, HLs.out, HRs.out, HBs.out⟩
    case round =>
      obtain ⟨k, hk1, hk5, rfl, hL, hR, hBB⟩ := hrel
      have HL := Lib.hid hL
      have HR := Lib.hid hR
      have HB := Lib.hid hBB
      clear hL hR hBB
      by_cases hlt : k ≤ 4
      · have t4 : (k : Int) ≤ 4 := by omega
        have hE1 : fetE f g (1 + qa) xs.length k X Y = 0 := fetE_zero hf hg hA (by rw [HXS.out]; exact HN3.out) (by omega) HF0.out
        have hQ1 : F1 = 0 → (k : Int) % 2 = 1 → fetE f g (1 + qa) xs.length (k + 1) (X - 8) Y = 0 ∧ fetL f g (1 + qa) xs (k + 1) (X - 8) Y = fetL f g (1 + qa) xs k X Y := fun h1 ho => by
          have h2 : fetE f g (1 + qa) xs.length (k + 1) (X - 8) Y = 0 := fetE_zero hf hg hA (by rw [HXS.out]; exact HN3.out) (by omega) (HF1.out.trans h1)
          exact ⟨h2, shared_x hE1 h2 (by omega)⟩
        have hQ2 : F2 = 0 → (k : Int) ≤ 2 → fetE f g (1 + qa) xs.length (k + 2) X (Y - 8) = 0 ∧ fetL f g (1 + qa) xs (k + 2) X (Y - 8) = fetL f g (1 + qa) xs k X Y := fun h1 ho => by
          have h2 : fetE f g (1 + qa) xs.length (k + 2) X (Y - 8) = 0 := fetE_zero hf hg hA (by rw [HXS.out]; exact HN3.out) (by omega) (HF2.out.trans h1)
          exact ⟨h2, shared_y hf hE1 h2 (by omega)⟩
        obtain ⟨L, hLL⟩ : ∃ L, fetL f g (1 + qa) xs k X Y = L := ⟨_, rfl⟩
        have hl64 : L.length = 64 := by rw [← hLL, fetL_len hE1]; simp
        have HLL := Lib.hid hLL
        have HL64 := Lib.hid hl64
        have HE1 := Lib.hid hE1
        have HQ1 := Lib.hid hQ1
        have HQ2 := Lib.hid hQ2
        have key1 : ((k : Int) % 2 == 1) = false ∨ ((k : Int) % 2 = 1 ∧ decide (-7 ≤ X) = false) ∨ ((k : Int) % 2 = 1 ∧ -7 ≤ X ∧ (F1 == 0) = false) ∨ ((k : Int) % 2 = 1 ∧ -7 ≤ X ∧ F1 = 0) := by
          by_cases ho : (k : Int) % 2 = 1
          · by_cases hX : -7 ≤ X
            · by_cases h1 : F1 = 0
              · exact .inr (.inr (.inr ⟨ho, hX, h1⟩))
              · exact .inr (.inr (.inl ⟨ho, hX, by simpa using h1⟩))
            · exact .inr (.inl ⟨ho, by simpa using hX⟩)
          · exact .inl (by simpa using ho)
        have key2 : decide ((k : Int) ≤ 2) = false ∨ ((k : Int) ≤ 2 ∧ decide (-7 ≤ Y) = false) ∨ ((k : Int) ≤ 2 ∧ -7 ≤ Y ∧ (F2 == 0) = false) ∨ ((k : Int) ≤ 2 ∧ -7 ≤ Y ∧ F2 = 0) := by
          by_cases ho : (k : Int) ≤ 2
          · by_cases hX : -7 ≤ Y
            · by_cases h1 : F2 = 0
              · exact .inr (.inr (.inr ⟨ho, hX, h1⟩))
              · exact .inr (.inr (.inl ⟨ho, hX, by simpa using h1⟩))
            · exact .inr (.inl ⟨ho, by simpa using hX⟩)
          · exact .inl (by simpa using ho)
        have k0 := HL.out.head
        have c0 := blk_cell k0 0
        have c1 := blk_cell k0 1
        have c2 := blk_cell k0 2
        simp only [List.getElem?_toArray, List.getElem?_cons_zero, List.getElem?_cons_succ] at c0 c1 c2
        clear k0 hLL hl64 hE1 hQ1 hQ2
        rcases key1 with ho | ⟨ho, hX⟩ | ⟨ho, hX, h1⟩ | ⟨ho, hX, h1⟩ <;> rcases key2 with ho2 | ⟨ho2, hX2⟩ | ⟨ho2, hX2, h2⟩ | ⟨ho2, hX2, h2⟩
        all_goals
          go_wp2_with (first
            | (go_at_call 25; refine (sameBytes_true _ _ L _ HRL.out HRM.out).mono ?_; rintro e w' ⟨rfl, rfl⟩)
            | (go_at_call 26; refine (fits_any _ _ _ _ _ _ (by omega) (by omega) (by omega) (by omega) (by omega) (by omega)).mono ?_; (first | rw [HF1.out] | rw [HF2.out]); rintro e w4 ⟨rfl, hb'⟩; replace HL := Lib.hid (HL.out.next hb'); replace HR := Lib.hid (HR.out.below hb'); replace HB := Lib.hid (below_nxt HB.out hb'); replace HRL := Lib.hid (HRL.out.below hb'); clear hb'; clear c0 c1 c2; have k0 := HL.out.head; have c0 := blk_cell k0 0; have c1 := blk_cell k0 1; have c2 := blk_cell k0 2; simp only [List.getElem?_toArray, List.getElem?_cons_zero, List.getElem?_cons_succ] at c0 c1 c2; clear k0)
            | (go_at_call 23; refine (fetch_any f g (1 + qa) _ _ _ _ xs _ HR.out (by omega) (by omega) (by omega) (by omega) (by omega) (by omega)).mono ?_; (first | (rw [(HQ1.out h1 ho).1, (HQ1.out h1 ho).2, HLL.out]; rintro e w5 ⟨⟨u, rfl, hu⟩, hb'⟩; have hru := Rd.of_owns (xs := L) hu (by have := HL64.out; omega); obtain ⟨ua, uc, rfl⟩ := hru.form; rw [HL64.out] at hru ⊢; have HRM := Lib.hid hru; replace HRL := Lib.hid (HRL.out.below hb')) | (rw [(HQ2.out h2 ho2).1, (HQ2.out h2 ho2).2, HLL.out]; rintro e w5 ⟨⟨u, rfl, hu⟩, hb'⟩; have hru := Rd.of_owns (xs := L) hu (by have := HL64.out; omega); obtain ⟨ua, uc, rfl⟩ := hru.form; rw [HL64.out] at hru ⊢; have HRM := Lib.hid hru; replace HRL := Lib.hid (HRL.out.below hb')) | (rw [HE1.out, HLL.out]; rintro e w5 ⟨⟨u, rfl, hu⟩, hb'⟩; have hru := Rd.of_owns (xs := L) hu (by have := HL64.out; omega); obtain ⟨ua, uc, rfl⟩ := hru.form; rw [HL64.out] at hru ⊢; have HRL := Lib.hid hru)); replace HL := Lib.hid (HL.out.next hb'); replace HR := Lib.hid (HR.out.below hb'); replace HB := Lib.hid (below_nxt HB.out hb'); clear hb' hu hru; clear c0 c1 c2; have k0 := HL.out.head; have c0 := blk_cell k0 0; have c1 := blk_cell k0 1; have c2 := blk_cell k0 2; simp only [List.getElem?_toArray, List.getElem?_cons_zero, List.getElem?_cons_succ] at c0 c1 c2; clear k0))
          go_roundw
          case rel => exact ⟨k + 1, by omega, by omega, by go_num, HL.out, HR.out, HB.out⟩
          case measure => simp [intOf]; omega
      · have e : k = 5 := by omega
        subst e
        go_wp2
        go_ret
        exact ⟨rfl, HB.out⟩
  · have ht : (F0 != 0) = true := by simpa using hfit
    clear hfit
    go_wp2
    go_ret
    exact ⟨rfl, HB.out⟩
end Go.Proofs.Ytcieggaihelacaa
