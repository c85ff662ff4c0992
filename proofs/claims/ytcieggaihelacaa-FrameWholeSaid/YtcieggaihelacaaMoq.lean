/- Layer 14's examples: awake, MotionHalves, MotionKnown. -/
import Derived.Test.YtcieggaihelacaaMop
set_option linter.unusedSimpArgs false
set_option linter.unusedVariables false
namespace Go.Proofs.Ytcieggaihelacaa
open Go.RowKit
set_option maxRecDepth 100000
def want1 : List Int := [19, 20, 21, 22, 23, 24, 25, 26]
theorem row1_E : fetE 0 1 2 38016 1 3 0 = 0 := by decide
theorem row1_L : (fetL 0 1 2 chapL 1 3 0).take 8 = want1 := chap_row 0 1 2 1 3 0 want1 row1_E (by decide) (by decide)
theorem rd_want1 (w : World) : Rd .u8 (w.alloc (.cells #[.int .u8 19, .int .u8 20, .int .u8 21, .int .u8 22, .int .u8 23, .int .u8 24, .int .u8 25, .int .u8 26] 5)) (.slice (some ⟨w.heap.size, 0, none⟩) 8 8) want1 := Rd.lit .u8 5 want1 w (by decide)
theorem awake14_any (w : World) : Calls Try.prog 30 #[] w fun e w' => e = .returned (.bool true) ∧ Below w.heap.size w w' := by
  have hh : halfS (-5) = -2 := by decide
  have f1 : fitsE 0 1 1 0 0 = 0 := by decide
  have f2 : fitsE 0 1 1 (-1) 0 = 12 := by decide
  have HH := Lib.hid hh
  have F1 := Lib.hid f1
  have F2 := Lib.hid f2
  have hb := Below.refl w.heap.size w
  clear hh f1 f2
  go_enter Try.func30, Try.ntmps30
  go_wp2_with (first
    | (go_at_call 31; refine (half_any _ _ (by decide) (by decide)).mono ?_; rw [HH.out]; rintro e w' ⟨rfl, rfl⟩)
    | (go_at_call 34; refine (qcif14_any _ _ _).mono ?_; rintro e w1 ⟨rfl, hb'⟩; replace hb := below_nxt hb hb'; clear hb')
    | (go_at_call 26; refine (fits_any _ _ _ _ _ _ (by decide) (by decide) (by decide) (by decide) (by decide) (by decide)).mono ?_; (first | rw [F1.out] | rw [F2.out]); rintro e w2 ⟨rfl, hb'⟩; replace hb := below_nxt hb hb'; clear hb')
    | (go_at_call 35; refine (row14_true 0 1 2 1 3 0 _ want1 _ (rd_want1 _) (by decide) (by decide) (by decide) (by decide) (by decide) (by decide) row1_E row1_L).mono ?_; rintro e w3 ⟨rfl, hb'⟩; replace hb := below_nxt (hb.alloc hb.size (Obj.cells #[.int .u8 19, .int .u8 20, .int .u8 21, .int .u8 22, .int .u8 23, .int .u8 24, .int .u8 25, .int .u8 26] 5)) hb'; clear hb'))
  go_ret
  exact ⟨rfl, hb⟩
theorem motionHalves_any (x : Int) (w : World) (h0 : -9223372036854775808 ≤ x) (h1 : x ≤ 9223372036854775807) : Calls Try.prog 4 #[.int .i64 x] w fun e w' => e = .returned (.bool true) ∧ Below w.heap.size w w' := by
  go_enter Try.func4, Try.ntmps4
  go_wp2_with (first
    | (go_at_call 31; refine (half_any _ _ h0 h1).mono ?_; rintro e w' ⟨rfl, rfl⟩)
    | (go_at_call 32; refine (half_r _ _ h0 h1).mono ?_; rintro e w' ⟨rfl, rfl⟩)
    | (go_at_call 30; refine (awake14_any _).mono ?_; rintro e w1 ⟨rfl, hb⟩))
  go_ret
  exact ⟨rfl, hb⟩
def want7 : List Int := [7, 7, 7, 7, 7, 7, 7, 7]
theorem row7_E : fetE 0 1 13 38016 5 0 (-3) = 0 := by decide
theorem row7_L : (fetL 0 1 13 chapL 5 0 (-3)).take 8 = want7 := chap_row 0 1 13 5 0 (-3) want7 row7_E (by decide) (by decide)
theorem rd_want7 (w : World) : Rd .u8 (w.alloc (.cells #[.int .u8 7, .int .u8 7, .int .u8 7, .int .u8 7, .int .u8 7, .int .u8 7, .int .u8 7, .int .u8 7] 5)) (.slice (some ⟨w.heap.size, 0, none⟩) 8 8) want7 := Rd.lit .u8 5 want7 w (by decide)
theorem rd_123 (w : World) : Rd .u8 (w.alloc (.cells #[.int .u8 1, .int .u8 2, .int .u8 3] 5)) (.slice (some ⟨w.heap.size, 0, none⟩) 3 3) [1, 2, 3] := Rd.lit .u8 5 [1, 2, 3] w (by decide)
set_option maxHeartbeats 1000000 in
theorem motionKnown_any (w : World) : Calls Try.prog 5 #[] w fun e w' => e = .returned (.bool true) ∧ Below w.heap.size w w' := by
  have hh : halfS 5 = 2 ∧ halfS (-1) = 0 := by decide
  have f1 : fitsE 0 1 11 1 0 = 12 ∧ fitsE 0 5 33 0 1 = 12 ∧ fitsE 0 1 1 16 0 = 3 := by decide
  have f3 : fetE 0 1 2 chapL.length 7 0 0 = 3 := by rw [chapL_len]; decide
  have f4 : fetE 0 1 2 ([1, 2, 3] : List Int).length 1 0 0 = 2 := by decide
  have HH := Lib.hid hh
  have F1 := Lib.hid f1
  have F3 := Lib.hid f3
  have F4 := Lib.hid f4
  have hb := Below.refl w.heap.size w
  clear hh f1 f3 f4
  go_enter Try.func5, Try.ntmps5
  go_wp2_with (first
    | (go_at_call 30; refine (awake14_any _).mono ?_; rintro e w3 ⟨rfl, hb'⟩; replace hb := below_nxt hb hb'; clear hb')
    | (go_at_call 35; refine (row14_true 0 1 13 5 0 (-3) _ want7 _ (rd_want7 _) (by decide) (by decide) (by decide) (by decide) (by decide) (by decide) row7_E row7_L).mono ?_; rintro e w3 ⟨rfl, hb'⟩; replace hb := below_nxt (hb.alloc hb.size (Obj.cells #[.int .u8 7, .int .u8 7, .int .u8 7, .int .u8 7, .int .u8 7, .int .u8 7, .int .u8 7, .int .u8 7] 5)) hb'; clear hb')
    | (go_at_call 31; refine (half_any _ _ (by decide) (by decide)).mono ?_; (first | rw [HH.out.1] | rw [HH.out.2]); rintro e w' ⟨rfl, rfl⟩)
    | (go_at_call 26; refine (fits_any _ _ _ _ _ _ (by decide) (by decide) (by decide) (by decide) (by decide) (by decide)).mono ?_; (first | rw [F1.out.1] | rw [F1.out.2.1] | rw [F1.out.2.2]); rintro e w2 ⟨rfl, hb'⟩; replace hb := below_nxt hb hb'; clear hb')
    | (go_at_call 23; refine (fetch_any 0 1 2 1 0 0 _ [1, 2, 3] _ ((rd_123 wq).below hbq) (by decide) (by decide) (by decide) (by decide) (by decide) (by decide)).mono ?_; rw [F4.out]; rintro e w2 ⟨⟨p2, rfl, _⟩, hb'⟩; replace hb := below_nxt hb hb'; clear hb')
    | (go_at_call 23; refine (fetch_any 0 1 2 7 0 0 _ chapL _ (hr.below hbr) (by decide) (by decide) (by decide) (by decide) (by decide) (by decide)).mono ?_; rw [F3.out]; rintro e wq ⟨⟨p1, rfl, _⟩, hb'⟩; replace hb := below_nxt hb hb'; clear hb')
    | (go_at_call 34; refine (qcif14_any _ _ (World.alloc wq _)).mono ?_; rintro e w1 ⟨rfl, hbq⟩; replace hb := below_nxt (hb.alloc hb.size (Obj.cells #[.int .u8 1, .int .u8 2, .int .u8 3] 5)) hbq)
    | (go_at_call 34; refine (qcif14_any _ _ wc).mono ?_; rintro e w1 ⟨rfl, hbr⟩; replace hb := below_nxt hb hbr)
    | (go_at_call 34; refine (qcif14_any _ _ _).mono ?_; rintro e w1 ⟨rfl, hb'⟩; replace hb := below_nxt hb hb'; clear hb')
    | (go_at_call 33; refine (chapter_any _).mono ?_; rintro e wc ⟨⟨r, rfl, hown⟩, hb'⟩; have hr : Rd .u8 wc r chapL := Rd.of_owns (by rw [chapL_len]; exact hown) (by rw [chapL_len]; decide); replace hb := below_nxt hb hb'; clear hb' hown))
  go_ret
  exact ⟨rfl, hb⟩
end Go.Proofs.Ytcieggaihelacaa
