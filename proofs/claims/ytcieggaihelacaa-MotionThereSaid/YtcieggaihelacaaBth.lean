/- Layer 14's statement MotionShared, walked: neighbouring blocks fetch the same. -/
import Derived.Test.YtcieggaihelacaaBtg
import Derived.Lib.MinMax
set_option linter.unusedSimpArgs false
set_option linter.unusedVariables false
namespace Go.Proofs.Ytcieggaihelacaa
open Go.RowKit
set_option maxRecDepth 100000
theorem fetE_zero {f g a b x y : Int} {n : Nat} (hf : f = 0 ∨ f = 1) (hg : g ∈ groupsS f) (ha : 1 ≤ a ∧ a ≤ 33) (hn : (n : Int) = bytesS f) (hb : 1 ≤ b ∧ b ≤ 6) (hfit : fitsE f g a x y = 0) : fetE f g a n b x y = 0 := by
  unfold fetE; rw [if_pos (corn_val hf hg ha).1, if_pos hn, if_pos hb, hfit]
theorem shared_x {f g a k x y : Int} {xs : List Int} (h1 : fetE f g a xs.length k x y = 0) (h2 : fetE f g a xs.length (k + 1) (x - 8) y = 0) (hk : k = 1 ∨ k = 3) : fetL f g a xs (k + 1) (x - 8) y = fetL f g a xs k x y := by
  rw [fetL_len h1, fetL_len h2]
  refine List.map_congr_left fun j hj => ?_
  have e : fetI f g a (k + 1) (x - 8) y j = fetI f g a k x y j := by
    unfold fetI sxS plcV plcS
    generalize cornerX f g a = X
    generalize cornerY g a = Y
    generalize wideS f = W
    generalize highS f = H
    rcases hk with rfl | rfl
    · simp; omega
    · simp; omega
  rw [e]
theorem shared_y {f g a k x y : Int} {xs : List Int} (hf : f = 0 ∨ f = 1) (h1 : fetE f g a xs.length k x y = 0) (h2 : fetE f g a xs.length (k + 2) x (y - 8) = 0) (hk : k = 1 ∨ k = 2) : fetL f g a xs (k + 2) x (y - 8) = fetL f g a xs k x y := by
  rw [fetL_len h1, fetL_len h2]
  refine List.map_congr_left fun j hj => ?_
  have e : fetI f g a (k + 2) x (y - 8) j = fetI f g a k x y j := by
    unfold fetI sxS plcV plcS
    generalize cornerX f g a = X
    generalize cornerY g a = Y
    have hW : wideS f = 176 ∨ wideS f = 352 := by rcases hf with rfl | rfl <;> decide
    generalize wideS f = W at *
    generalize highS f = H
    rcases hk with rfl | rfl <;> rcases hW with rfl | rfl
    all_goals (simp; omega)
  rw [e]
set_option maxHeartbeats 16000000 in
theorem motionShared_any (x0 x1 x2 x4 x5 x6 x7 : Int) (w : World) (h0 : -9223372036854775808 ≤ x0 ∧ x0 ≤ 9223372036854775807) (h1 : -9223372036854775808 ≤ x1 ∧ x1 ≤ 9223372036854775807) (h2 : -9223372036854775808 ≤ x2 ∧ x2 ≤ 9223372036854775807) (h4 : -9223372036854775808 ≤ x4 ∧ x4 ≤ 9223372036854775807) (h5 : -9223372036854775808 ≤ x5 ∧ x5 ≤ 9223372036854775807) :
    Calls Try.prog 6 #[.int .i64 x0, .int .i64 x1, .int .i64 x2, .int .i64 x4, .int .i64 x5, .int .i64 x6, .int .i64 x7] w fun e w' => e = .returned (.bool true) ∧ Below w.heap.size w w' := by
  obtain ⟨X, hx⟩ : ∃ X, x4 % 31 = X + 15 := ⟨x4 % 31 - 15, by omega⟩
  obtain ⟨Y, hy⟩ : ∃ Y, x5 % 31 = Y + 15 := ⟨x5 % 31 - 15, by omega⟩
  have hxb : -15 ≤ X ∧ X ≤ 15 := by omega
  have hyb : -15 ≤ Y ∧ Y ≤ 15 := by omega
  have HP := Lib.hid (And.intro hx hy)
  obtain ⟨qa, hqa⟩ : ∃ qa, x2 % 33 = qa := ⟨_, rfl⟩
  have hqb : 0 ≤ qa ∧ qa ≤ 32 := by omega
  have hs := spot_any x0 x1 x2
  rw [hqa] at hs
  have HS := Lib.hid hs
  clear hx hy hs hqa
  go_enter Try.func6, Try.ntmps6
  go_wp2_with (first
    | (go_at_call 30; refine (awake14_any _).mono ?_; rintro e w1 ⟨rfl, hb1⟩; have HB1 := Lib.hid hb1; clear hb1)
    | (go_at_call 36; refine (HS.out _ h0.1 h0.2 h1.1 h1.2 h2.1 h2.2).mono ?_; rintro e w2 ⟨⟨f, g, rfl, hfx, hf, hg⟩, hb2⟩; have HL2 := Lib.hid ((Lies.nil w2).alloc (Obj.cells #[.int .i64 f, .int .i64 g, .int .i64 (1 + qa)] 23)); have HB2 := Lib.hid ((below_nxt HB1.out hb2).alloc (below_nxt HB1.out hb2).size (Obj.cells #[.int .i64 f, .int .i64 g, .int .i64 (1 + qa)] 23)); clear hfx hb2)
    | (go_at_call 21; refine (pick_any _ _ _ (by omega) (by omega) (by decide) (by decide)).mono ?_; (first | rw [HP.out.1] | rw [HP.out.2]); rintro e w' ⟨rfl, rfl⟩)
    | (go_at_call 20; refine (scene_any f x6 x7 _ hf).mono ?_; rintro e w3 ⟨⟨gs, n, xs, rfl, hns, hxs, hby, hgs, hp3⟩, hb3⟩; have hnb : n ≤ 152064 := (by clear hxs hby hgs hp3 hb3; rcases hf with rfl | rfl <;> simp [bytesS] at hns <;> omega); have HN3 := Lib.hid hns; have hr3 := hp3.rd (by omega) (c := n) (by omega); rw [hxs] at hr3; have HR := Lib.hid hr3; have HXS := Lib.hid hxs; have HL := Lib.hid (HL2.out.next hb3); have HB := Lib.hid (below_nxt HB2.out hb3); clear hns hxs hp3 hby hb3 hr3; have k0 := HL.out.head; have c0 := blk_cell k0 0; have c1 := blk_cell k0 1; have c2 := blk_cell k0 2; simp only [List.getElem?_toArray, List.getElem?_cons_zero, List.getElem?_cons_succ] at c0 c1 c2; clear k0))
  obtain ⟨F0, hF0⟩ : ∃ F0, fitsE f g (1 + qa) X Y = F0 := ⟨_, rfl⟩
  have HF0 := Lib.hid hF0
  clear hF0
  refine (fits_any _ _ _ _ _ _ (by omega) (by omega) (by omega) (by omega) (by omega) (by omega)).mono ?_
  rw [HF0.out]
  rintro e w4 ⟨rfl, hb4⟩
  replace HL := Lib.hid (HL.out.next hb4)
  replace HR := Lib.hid (HR.out.below hb4)
  replace HB := Lib.hid (below_nxt HB.out hb4)
  clear hb4 c0 c1 c2
  by_cases hfit : F0 = 0
  · subst hfit
    have hA : 1 ≤ 1 + qa ∧ 1 + qa ≤ 33 := by omega
    obtain ⟨F1, hF1⟩ : ∃ F1, fitsE f g (1 + qa) (X - 8) Y = F1 := ⟨_, rfl⟩
    obtain ⟨F2, hF2⟩ : ∃ F2, fitsE f g (1 + qa) X (Y - 8) = F2 := ⟨_, rfl⟩
    have HF1 := Lib.hid hF1
    have HF2 := Lib.hid hF2
    have HLs := Lib.hid HL.out
    have HBs := Lib.hid HB.out
    have HRs := Lib.hid HR.out
    clear hF1 hF2 HL2 HB2 HB1 HL HB HR
    go_wp2
    go_loopw [18, 19, 20, 21, 22, 23, 24] (fun i _ _ _ _ _ _ wr => ∃ k : Nat, 1 ≤ k ∧ k ≤ 5 ∧ i = .int .i64 k ∧ Lies [(w2.heap.size, Obj.cells #[.int .i64 f, .int .i64 g, .int .i64 (1 + qa)] 23)] wr ∧ Rd .u8 wr (.slice (some ⟨gs, 0, none⟩) n n) xs ∧ Below w.heap.size w wr) (fun i _ _ _ _ _ _ _ => 10 - (intOf i).toNat)
    case atStart => exact ⟨1, by omega, by omega, rfl, HLs.out, HRs.out, HBs.out⟩
    case round =>
      obtain ⟨k, hk1, hk5, rfl, hL, hR, hBB⟩ := hrel
      have HL := Lib.hid hL
      have HR := Lib.hid hR
      have HB := Lib.hid hBB
      clear hL hR hBB
      by_cases hlt : k ≤ 4
      · have t4 : (k : Int) ≤ 4 := by omega
        have hE1 : fetE f g (1 + qa) xs.length k X Y = 0 := fetE_zero hf hg hA (by rw [HXS.out]; exact HN3.out) (by omega) HF0.out
        have hQ1 : F1 = 0 → (k : Int) % 2 = 1 → fetE f g (1 + qa) xs.length (k + 1) (X - 8) Y = 0 ∧ fetL f g (1 + qa) xs (k + 1) (X - 8) Y = fetL f g (1 + qa) xs k X Y := fun h1 ho => by
          have h2 : fetE f g (1 + qa) xs.length (k + 1) (X - 8) Y = 0 := fetE_zero hf hg hA (by rw [HXS.out]; exact HN3.out) (by omega) (HF1.out.trans h1)
          exact ⟨h2, shared_x hE1 h2 (by omega)⟩
        have hQ2 : F2 = 0 → (k : Int) ≤ 2 → fetE f g (1 + qa) xs.length (k + 2) X (Y - 8) = 0 ∧ fetL f g (1 + qa) xs (k + 2) X (Y - 8) = fetL f g (1 + qa) xs k X Y := fun h1 ho => by
          have h2 : fetE f g (1 + qa) xs.length (k + 2) X (Y - 8) = 0 := fetE_zero hf hg hA (by rw [HXS.out]; exact HN3.out) (by omega) (HF2.out.trans h1)
          exact ⟨h2, shared_y hf hE1 h2 (by omega)⟩
        obtain ⟨L, hLL⟩ : ∃ L, fetL f g (1 + qa) xs k X Y = L := ⟨_, rfl⟩
        have hl64 : L.length = 64 := by rw [← hLL, fetL_len hE1]; simp
        have HLL := Lib.hid hLL
        have HL64 := Lib.hid hl64
        have HE1 := Lib.hid hE1
        have HQ1 := Lib.hid hQ1
        have HQ2 := Lib.hid hQ2
        have key1 : ((k : Int) % 2 == 1) = false ∨ ((k : Int) % 2 = 1 ∧ decide (-7 ≤ X) = false) ∨ ((k : Int) % 2 = 1 ∧ -7 ≤ X ∧ (F1 == 0) = false) ∨ ((k : Int) % 2 = 1 ∧ -7 ≤ X ∧ F1 = 0) := by
          by_cases ho : (k : Int) % 2 = 1
          · by_cases hX : -7 ≤ X
            · by_cases h1 : F1 = 0
              · exact .inr (.inr (.inr ⟨ho, hX, h1⟩))
              · exact .inr (.inr (.inl ⟨ho, hX, by simpa using h1⟩))
            · exact .inr (.inl ⟨ho, by simpa using hX⟩)
          · exact .inl (by simpa using ho)
        have key2 : decide ((k : Int) ≤ 2) = false ∨ ((k : Int) ≤ 2 ∧ decide (-7 ≤ Y) = false) ∨ ((k : Int) ≤ 2 ∧ -7 ≤ Y ∧ (F2 == 0) = false) ∨ ((k : Int) ≤ 2 ∧ -7 ≤ Y ∧ F2 = 0) := by
          by_cases ho : (k : Int) ≤ 2
          · by_cases hX : -7 ≤ Y
            · by_cases h1 : F2 = 0
              · exact .inr (.inr (.inr ⟨ho, hX, h1⟩))
              · exact .inr (.inr (.inl ⟨ho, hX, by simpa using h1⟩))
            · exact .inr (.inl ⟨ho, by simpa using hX⟩)
          · exact .inl (by simpa using ho)
        have k0 := HL.out.head
        have c0 := blk_cell k0 0
        have c1 := blk_cell k0 1
        have c2 := blk_cell k0 2
        simp only [List.getElem?_toArray, List.getElem?_cons_zero, List.getElem?_cons_succ] at c0 c1 c2
        clear k0 hLL hl64 hE1 hQ1 hQ2
        rcases key1 with ho | ⟨ho, hX⟩ | ⟨ho, hX, h1⟩ | ⟨ho, hX, h1⟩ <;> rcases key2 with ho2 | ⟨ho2, hX2⟩ | ⟨ho2, hX2, h2⟩ | ⟨ho2, hX2, h2⟩
        all_goals
          go_wp2_with (first
            | (go_at_call 25; refine (sameBytes_true _ _ L _ HRL.out HRM.out).mono ?_; rintro e w' ⟨rfl, rfl⟩)
            | (go_at_call 26; refine (fits_any _ _ _ _ _ _ (by omega) (by omega) (by omega) (by omega) (by omega) (by omega)).mono ?_; (first | rw [HF1.out] | rw [HF2.out]); rintro e w4 ⟨rfl, hb'⟩; replace HL := Lib.hid (HL.out.next hb'); replace HR := Lib.hid (HR.out.below hb'); replace HB := Lib.hid (below_nxt HB.out hb'); replace HRL := Lib.hid (HRL.out.below hb'); clear hb'; clear c0 c1 c2; have k0 := HL.out.head; have c0 := blk_cell k0 0; have c1 := blk_cell k0 1; have c2 := blk_cell k0 2; simp only [List.getElem?_toArray, List.getElem?_cons_zero, List.getElem?_cons_succ] at c0 c1 c2; clear k0)
            | (go_at_call 23; refine (fetch_any f g (1 + qa) _ _ _ _ xs _ HR.out (by omega) (by omega) (by omega) (by omega) (by omega) (by omega)).mono ?_; (first | (rw [(HQ1.out h1 ho).1, (HQ1.out h1 ho).2, HLL.out]; rintro e w5 ⟨⟨u, rfl, hu⟩, hb'⟩; have hru := Rd.of_owns (xs := L) hu (by have := HL64.out; omega); obtain ⟨ua, uc, rfl⟩ := hru.form; rw [HL64.out] at hru ⊢; have HRM := Lib.hid hru; replace HRL := Lib.hid (HRL.out.below hb')) | (rw [(HQ2.out h2 ho2).1, (HQ2.out h2 ho2).2, HLL.out]; rintro e w5 ⟨⟨u, rfl, hu⟩, hb'⟩; have hru := Rd.of_owns (xs := L) hu (by have := HL64.out; omega); obtain ⟨ua, uc, rfl⟩ := hru.form; rw [HL64.out] at hru ⊢; have HRM := Lib.hid hru; replace HRL := Lib.hid (HRL.out.below hb')) | (rw [HE1.out, HLL.out]; rintro e w5 ⟨⟨u, rfl, hu⟩, hb'⟩; have hru := Rd.of_owns (xs := L) hu (by have := HL64.out; omega); obtain ⟨ua, uc, rfl⟩ := hru.form; rw [HL64.out] at hru ⊢; have HRL := Lib.hid hru)); replace HL := Lib.hid (HL.out.next hb'); replace HR := Lib.hid (HR.out.below hb'); replace HB := Lib.hid (below_nxt HB.out hb'); clear hb' hu hru; clear c0 c1 c2; have k0 := HL.out.head; have c0 := blk_cell k0 0; have c1 := blk_cell k0 1; have c2 := blk_cell k0 2; simp only [List.getElem?_toArray, List.getElem?_cons_zero, List.getElem?_cons_succ] at c0 c1 c2; clear k0))
          go_roundw
          case rel => exact ⟨k + 1, by omega, by omega, by go_num, HL.out, HR.out, HB.out⟩
          case measure => simp [intOf]; omega
      · have e : k = 5 := by omega
        subst e
        go_wp2
        go_ret
        exact ⟨rfl, HB.out⟩
  · have ht : (F0 != 0) = true := by simpa using hfit
    clear hfit
    go_wp2
    go_ret
    exact ⟨rfl, HB.out⟩
end Go.Proofs.Ytcieggaihelacaa
/- Layer 14's statement MotionThere, walked, for format 0. -/
set_option linter.unusedSimpArgs false
set_option linter.unusedVariables false
namespace Go.Proofs.Ytcieggaihelacaa
open Go.RowKit
set_option maxRecDepth 100000
theorem there_fit {f g a x y : Int} (hf : f = 0 ∨ f = 1) (hg : g ∈ groupsS f) (ha : 1 ≤ a ∧ a ≤ 33) (hx : -15 ≤ x ∧ x ≤ 15) (hy : -15 ≤ y ∧ y ≤ 15) :
    (fitsE f g a x y = 12 ∧ (cornerX f g a + x < 0 ∨ (0 ≤ cornerX f g a + x ∧ wideS f < cornerX f g a + x + 16) ∨ (0 ≤ cornerX f g a + x ∧ cornerX f g a + x + 16 ≤ wideS f ∧ cornerY g a + y < 0) ∨ (0 ≤ cornerX f g a + x ∧ cornerX f g a + x + 16 ≤ wideS f ∧ 0 ≤ cornerY g a + y ∧ highS f < cornerY g a + y + 16))) ∨
    (fitsE f g a x y = 0 ∧ 0 ≤ cornerX f g a + x ∧ cornerX f g a + x + 16 ≤ wideS f ∧ 0 ≤ cornerY g a + y ∧ cornerY g a + y + 16 ≤ highS f) := by
  have hc := (corn_val hf hg ha).1
  rcases fits_cases f g a x y with ⟨h1, _⟩ | ⟨_, h1, _⟩ | ⟨_, _, h1, e⟩ | ⟨_, _, h1, e⟩
  · exact absurd hc h1
  · exact absurd ⟨hx.1, hx.2, hy⟩ h1
  · exact .inl ⟨e, by omega⟩
  · exact .inr ⟨e, h1⟩
theorem fetE_fit {f g a b x y : Int} {n : Nat} (hf : f = 0 ∨ f = 1) (hg : g ∈ groupsS f) (ha : 1 ≤ a ∧ a ≤ 33) (hn : (n : Int) = bytesS f) (hb : 1 ≤ b ∧ b ≤ 6) : fetE f g a n b x y = fitsE f g a x y := by
  unfold fetE; rw [if_pos (corn_val hf hg ha).1, if_pos hn, if_pos hb]
theorem halfS_bd {x : Int} (h : -15 ≤ x ∧ x ≤ 15) : -7 ≤ halfS x ∧ halfS x ≤ 7 ∧ x.tdiv 2 = halfS x := by
  have := half_tdiv x
  refine ⟨?_, ?_, rfl⟩ <;> split at this <;> omega
end Go.Proofs.Ytcieggaihelacaa
/- The paint layer's plain functions, and the document's beside them: Clip, Add, Flat. The samples are bytes. -/
set_option linter.unusedSimpArgs false
set_option linter.unusedVariables false
namespace Go.Proofs.Ytcieggaihelacaa
open Go.RowKit
set_option maxRecDepth 100000
def clipS (n : Int) : Int := max 0 (min n 255)
theorem clipS_bd (n : Int) : 0 ≤ clipS n ∧ clipS n ≤ 255 := by unfold clipS; omega
theorem clip_any (n : Int) (w : World) :
    Calls Try.prog 62 #[.int .i64 n] w fun e w' => e = .returned (.int .u8 (clipS n)) ∧ w = w' := by
  have hb := clipS_bd n
  obtain ⟨c, hc⟩ : ∃ c, clipS n = c := ⟨_, rfl⟩
  have hm : max 0 (min n 255) = c := hc
  rw [hc] at hb ⊢
  clear hc
  go_enter Try.func62, Try.ntmps62
  go_wp2
  go_ret
  exact ⟨rfl, rfl⟩
theorem rclip_any (n : Int) (w : World) :
    Calls Try.prog 63 #[.int .i64 n] w fun e w' => e = .returned (.int .u8 (clipS n)) ∧ w = w' := by
  have hb := clipS_bd n
  obtain ⟨c, hc⟩ : ∃ c, clipS n = c := ⟨_, rfl⟩
  have hm : min (max n 0) 255 = c := by rw [← hc]; unfold clipS; omega
  rw [hc] at hb ⊢
  clear hc
  go_enter Try.func63, Try.ntmps63
  go_wp2
  go_ret
  exact ⟨rfl, rfl⟩
theorem add1_any (x n : Int) (w : World) (hx : 0 ≤ x ∧ x ≤ 255) (hn : -1048576 ≤ n ∧ n ≤ 1048576) :
    Calls Try.prog 92 #[.int .u8 x, .int .i64 n] w fun e w' => e = .returned (.int .u8 (clipS (x + n))) ∧ w = w' := by
  go_enter Try.func92, Try.ntmps92
  go_wp2_with (go_at_call 62; refine (clip_any _ _).mono ?_; rintro e w' ⟨rfl, rfl⟩)
  go_ret
  exact ⟨rfl, rfl⟩
def small (ys : List Int) : Prop := ∀ y ∈ ys, -1048576 ≤ y ∧ y ≤ 1048576
instance (ys : List Int) : Decidable (small ys) := by unfold small; infer_instance
def addE (n : Nat) (ys : List Int) : Int := if n = 64 ∧ ys.length = 64 then (if small ys then 0 else 3) else 2
def addZ (xs ys : List Int) : List Int := xs.zipWith (fun x y => clipS (x + y)) ys
def addL (xs ys : List Int) : List Int := if addE xs.length ys = 0 then addZ xs ys else []
theorem add_cases (xs ys : List Int) :
    (¬ (xs.length = 64 ∧ ys.length = 64) ∧ addE xs.length ys = 2 ∧ addL xs ys = []) ∨
    ((xs.length = 64 ∧ ys.length = 64) ∧ ¬ small ys ∧ addE xs.length ys = 3 ∧ addL xs ys = []) ∨
    ((xs.length = 64 ∧ ys.length = 64) ∧ small ys ∧ addE xs.length ys = 0 ∧ addL xs ys = addZ xs ys) := by
  unfold addL
  by_cases h1 : xs.length = 64 ∧ ys.length = 64
  · by_cases h2 : small ys
    · have e : addE xs.length ys = 0 := by unfold addE; rw [if_pos h1, if_pos h2]
      exact .inr (.inr ⟨h1, h2, e, by rw [if_pos e]⟩)
    · have e : addE xs.length ys = 3 := by unfold addE; rw [if_pos h1, if_neg h2]
      exact .inr (.inl ⟨h1, h2, e, by rw [e]; rfl⟩)
  · have e : addE xs.length ys = 2 := by unfold addE; rw [if_neg h1]
    exact .inl ⟨h1, e, by rw [e]; rfl⟩
theorem addZ_len {xs ys : List Int} (h : xs.length = ys.length) : (addZ xs ys).length = xs.length := by unfold addZ; rw [List.length_zipWith]; omega
theorem addZ_step {xs ys : List Int} (h : xs.length = ys.length) (k : Nat) (hk : k < xs.length) : (addZ xs ys).take (k + 1) = (addZ xs ys).take k ++ [clipS (xs[k]?.getD 0 + ys[k]?.getD 0)] := by
  rw [List.take_add_one]
  unfold addZ
  rw [List.getElem?_zipWith, List.getElem?_eq_getElem hk, List.getElem?_eq_getElem (by omega)]
  rfl
theorem small.at {ys : List Int} (h : small ys) {k : Nat} (hk : k < ys.length) : -1048576 ≤ ys[k]?.getD 0 ∧ ys[k]?.getD 0 ≤ 1048576 := by
  rw [List.getElem?_eq_getElem hk]; exact h _ (List.getElem_mem hk)
theorem zip_any (v u : Value) (xs ys : List Int) (w : World) (h : Rd .u8 w v xs) (hb : byt xs) (g : Rd .i64 w u ys) (hlen : xs.length = ys.length) (hs : small ys) (h0 : 0 < xs.length) (hl : xs.length ≤ 1000) :
    Calls Try.prog 91 #[v, u, .func (.func 92) #[] #[]] w fun e w' => (∃ r, e = .returned r ∧ w'.ownsRow w.heap.size 5 1 r xs.length ((addZ xs ys).map (Value.int .u8))) ∧ Below w.heap.size w w' := by
  obtain ⟨xb, xo, xc, rfl, hxb, hxc, hxh⟩ := h.solid h0
  obtain ⟨yb, yo, yc, rfl, hyb, hyc, hyh⟩ := g.solid (by omega)
  have hst := addZ_step hlen
  have hZl := addZ_len hlen
  obtain ⟨Z, hZ⟩ : ∃ Z, addZ xs ys = Z := ⟨_, rfl⟩
  simp only [hZ] at hst hZl ⊢
  have HST := Lib.hid hst
  have HZL := Lib.hid hZl
  have HBY := Lib.hid hb
  have HSM := Lib.hid hs
  have HX := Lib.hid hxh
  have HY := Lib.hid hyh
  obtain ⟨n, hn⟩ : ∃ n, xs.length = n := ⟨_, rfl⟩
  have hn2 : ys.length = n := by omega
  have HN := Lib.hid hn
  have HN2 := Lib.hid hn2
  rw [hn] at hxc h0 hl ⊢
  rw [hn2] at hyc ⊢
  clear hst hZ hZl hb hs hxh hyh hlen hn hn2 h g
  go_enter Try.func91, Try.ntmps91
  go_wp2
  go_loopw [7, 8, 9, 12] (fun v _ _ i wr => ∃ k : Nat, k ≤ n ∧ i = .int .i64 k ∧ wr.ownsRow w.heap.size 5 1 v k ((Z.take k).map (Value.int .u8)) ∧ Below w.heap.size w wr) (fun _ _ _ i _ => n - (intOf i).toNat)
  case atStart => exact ⟨0, by omega, rfl, World.ownsRow_nil _ _ _ _, Below.refl _ _⟩
  case round =>
    obtain ⟨k, hk, rfl, hown, hbel⟩ := hrel
    by_cases hlt : k < n
    · have hs := HST.out k (by rw [HN.out]; exact hlt)
      have hx := HX.out k (by rw [HN.out]; exact hlt)
      have hy := HY.out k (by rw [HN2.out]; exact hlt)
      have bx := HBY.out.at k
      have by' := HSM.out.at (k := k) (by rw [HN2.out]; exact hlt)
      generalize xs[k]?.getD 0 = x at hs hx bx
      generalize ys[k]?.getD 0 = y at hs hy by'
      have hx := (hbel.cell (p := ⟨xb, xo + k, none⟩) hxb).trans hx
      have hy := (hbel.cell (p := ⟨yb, yo + k, none⟩) hyb).trans hy
      have hsz := hbel.size
      have HS := Lib.hid hs
      have HBE := Lib.hid hbel
      clear hs hbel
      go_wp2_with (first
        | (go_at_call 92; refine (add1_any x y _ bx by').mono ?_; rintro e w' ⟨rfl, rfl⟩)
        | (at_builtin; refine wp_app1 Try.elByte rfl rfl (hown.alloc _) (cell_alloc1 _ _ _) rfl (by omega) (by simp; omega) ?_; intro g1 c1 w1 hown3 hgrow3 _))
      go_roundw
      case rel =>
        refine ⟨k + 1, by omega, by go_num, ?_, ?_⟩
        · rw [HS.out, List.map_append]; exact hown3
        · exact (HBE.out.alloc HBE.out.size _).grown hgrow3 (by simp; omega) (fun j e => (hown.lt j e).1)
      case measure => simp [intOf]; omega
    · have e : k = n := by omega
      subst e
      have hzt : Z.take k = Z := List.take_of_length_le (by rw [HZL.out, HN.out]; omega)
      rw [hzt] at hown
      clear hzt
      go_wp2
      go_ret
      exact ⟨⟨_, rfl, hown⟩, hbel⟩
end Go.Proofs.Ytcieggaihelacaa
/- The contracts of the paint layer's Add and Flat. -/
set_option linter.unusedSimpArgs false
set_option linter.unusedVariables false
namespace Go.Proofs.Ytcieggaihelacaa
open Go.RowKit
set_option maxRecDepth 100000
theorem small_of {ys : List Int} (h : ∀ j, j < ys.length → -1048576 ≤ ys[j]?.getD 0 ∧ ys[j]?.getD 0 ≤ 1048576) : small ys := fun y hy => by
  obtain ⟨j, hj, rfl⟩ := List.getElem_of_mem hy
  have := h j hj
  rw [List.getElem?_eq_getElem hj] at this
  exact this
theorem notSmall {ys : List Int} {k : Nat} (hk : k < ys.length) (h : ys[k]?.getD 0 < -1048576 ∨ 1048576 < ys[k]?.getD 0) : ¬ small ys := fun hs => by
  have := hs.at hk; omega
theorem addL_none {xs ys : List Int} (h : addE xs.length ys ≠ 0) : addL xs ys = [] := by unfold addL; rw [if_neg h]
set_option maxHeartbeats 1000000 in
theorem add_any (v u : Value) (xs ys : List Int) (w : World) (h : Rd .u8 w v xs) (hb : byt xs) (g : Rd .i64 w u ys) :
    Calls Try.prog 58 #[v, u] w fun e w' => (∃ r, e = .returned (.tuple #[r, .int .i64 (addE xs.length ys)]) ∧ w'.ownsRow w.heap.size 5 1 r (addL xs ys).length ((addL xs ys).map (Value.int .u8))) ∧ Below w.heap.size w w' := by
  by_cases hl : xs.length = 64 ∧ ys.length = 64
  · obtain ⟨yb, yo, yc, rfl, hyb, hyc, hyh⟩ := g.solid (by omega)
    obtain ⟨xa, xc, rfl⟩ := h.form
    have hl1 := hl.1
    have hl2 := hl.2
    have HL := Lib.hid hl
    rw [hl2] at hyc
    have HH := Lib.hid h
    have HG := Lib.hid g
    have HBY := Lib.hid hb
    have HYH := Lib.hid hyh
    by_cases hs : small ys
    · have hE : addE xs.length ys = 0 := by unfold addE; rw [if_pos hl, if_pos hs]
      have hLZ : addL xs ys = addZ xs ys := by unfold addL; rw [if_pos hE]
      have hzl : (addZ xs ys).length = 64 := by rw [addZ_len (by omega), hl1]
      rw [hE, hLZ, hzl, hl1, hl2]
      have HS := Lib.hid hs
      clear h g hb hyh hl hE hLZ hzl hs hl1 hl2
      go_enter Try.func58, Try.ntmps58
      go_wp2
      go_loop [7, 18] (fun _ i => ∃ k : Nat, k ≤ 64 ∧ i = .int .i64 k) (fun _ i => 64 - (intOf i).toNat)
      case atStart => exact ⟨0, by omega, rfl⟩
      case round =>
        obtain ⟨k, hk, rfl⟩ := hrel
        by_cases hlt : k < 64
        · have hlt' : (k : Int) < 64 := by omega
          have hc := HYH.out k (by rw [HL.out.2]; exact hlt)
          have hb := HS.out.at (k := k) (by rw [HL.out.2]; exact hlt)
          generalize ys[k]?.getD 0 = y at hc hb
          go_wp2
          go_round
          case rel => exact ⟨k + 1, by omega, by go_num⟩
          case measure => simp [intOf]; omega
        · have e : k = 64 := by omega
          subst e
          have hz := zip_any _ _ xs ys w HH.out HBY.out HG.out (by rw [HL.out.1, HL.out.2]) HS.out (by rw [HL.out.1]; decide) (by rw [HL.out.1]; decide)
          rw [HL.out.1, HL.out.2] at hz
          have HZ := Lib.hid hz
          clear hz
          go_wp2_with (go_at_call 91; refine HZ.out.mono ?_; rintro e w1 ⟨⟨r, rfl, hown⟩, hb1⟩)
          go_ret2
          exact ⟨⟨_, rfl, hown⟩, hb1⟩
    · have hE : addE xs.length ys = 3 := by unfold addE; rw [if_pos hl, if_neg hs]
      rw [addL_none (by rw [hE]; decide), hE, hl1, hl2]
      have HS := Lib.hid hs
      clear h g hb hyh hl hE hs hl1 hl2
      go_enter Try.func58, Try.ntmps58
      go_wp2
      go_loop [7, 18] (fun _ i => ∃ k : Nat, k ≤ 64 ∧ i = .int .i64 k ∧ ∀ j, j < k → -1048576 ≤ ys[j]?.getD 0 ∧ ys[j]?.getD 0 ≤ 1048576) (fun _ i => 64 - (intOf i).toNat)
      case atStart => exact ⟨0, by omega, rfl, fun j hj => by omega⟩
      case round =>
        obtain ⟨k, hk, rfl, hn⟩ := hrel
        have HN := Lib.hid hn
        clear hn
        by_cases hlt : k < 64
        · have hlt' : (k : Int) < 64 := by omega
          have hc := HYH.out k (by rw [HL.out.2]; exact hlt)
          obtain ⟨y, hy⟩ : ∃ y, ys[k]?.getD 0 = y := ⟨_, rfl⟩
          rw [hy] at hc
          have HY := Lib.hid hy
          clear hy
          rcases (show y < -1048576 ∨ (-1048576 ≤ y ∧ 1048576 < y) ∨ (-1048576 ≤ y ∧ y ≤ 1048576) by omega) with h1 | ⟨h1, h2⟩ | ⟨h1, h2⟩
          · go_wp2
            go_ret2
            exact ⟨⟨_, rfl, World.ownsRow_nil _ _ _ _⟩, Below.refl _ _⟩
          · go_wp2
            go_ret2
            exact ⟨⟨_, rfl, World.ownsRow_nil _ _ _ _⟩, Below.refl _ _⟩
          · go_wp2
            go_round
            case rel =>
              refine ⟨k + 1, by omega, by go_num, fun j hj => ?_⟩
              by_cases e : j = k
              · subst e; rw [HY.out]; exact ⟨h1, h2⟩
              · exact HN.out j (by omega)
            case measure => simp [intOf]; omega
        · exact absurd (small_of (ys := ys) (fun j hj => HN.out j (by rw [HL.out.2] at hj; omega))) HS.out
  · have hE : addE xs.length ys = 2 := by unfold addE; rw [if_neg hl]
    rw [addL_none (by rw [hE]; decide), hE]
    have lx := h.len
    have ly := g.len
    obtain ⟨xa, xc, rfl⟩ := h.form
    obtain ⟨ya, yc, rfl⟩ := g.form
    have key : ((xs.length : Int) != 64) = true ∨ (((xs.length : Int) != 64) = false ∧ ((ys.length : Int) != 64) = true) := by
      by_cases e : xs.length = 64
      · exact .inr ⟨by simp [e], by simp; omega⟩
      · exact .inl (by simp; omega)
    clear h g hE hl hb
    rcases key with k1 | ⟨k1, k2⟩
    all_goals
      go_enter Try.func58, Try.ntmps58
      go_wp2
      go_ret2
      exact ⟨⟨_, rfl, World.ownsRow_nil _ _ _ _⟩, Below.refl _ _⟩
end Go.Proofs.Ytcieggaihelacaa
