/- Layer 13's statements, walked: FrameKnown, FrameRows. -/
import Derived.Test.YtcieggaihelacaaFrn
set_option linter.unusedSimpArgs false
set_option linter.unusedVariables false
namespace Go.Proofs.Ytcieggaihelacaa
open Go.RowKit

theorem rd_135 (w : World) : Rd .i64 (w.alloc (.cells #[.int .i64 1, .int .i64 3, .int .i64 5] 3)) (.slice (some ⟨w.heap.size, 0, none⟩) 3 3) [1, 3, 5] :=
  Rd.of_owns (xs := [1, 3, 5]) (k := .i64) (owns_new 3 [.int .i64 1, .int .i64 3, .int .i64 5] (by decide)) (by decide)
set_option maxRecDepth 100000 in
set_option maxHeartbeats 4000000 in
theorem frameKnown_any (w : World) : Calls Try.prog 10 #[] w fun e w' => e = .returned (.bool true) ∧ Below w.heap.size w w' := by
  have hgs : groupsS 0 = [1, 3, 5] := rfl
  have HGS := Lib.hid hgs
  clear hgs
  go_enter Try.func10, Try.ntmps10
  go_wp2_with (first
    | (go_at_call 43; refine (same_true _ _ [1, 3, 5] _ (hl.alloc _) (rd_135 _)).mono ?_; rintro e w5 ⟨rfl, n5, rfl⟩; replace hb := below_drewN (hb.alloc hb.size (Obj.cells #[.int .i64 1, .int .i64 3, .int .i64 5] 3)) n5)
    | (go_at_call 39; refine (Groups_any 0 _).mono ?_; rw [HGS.out]; rintro e w1 ⟨⟨l, rfl, hl0⟩, hb⟩; have hl := Rd.of_owns (xs := [1, 3, 5]) hl0 (by decide); clear hl0)
    | (go_at_call 50; refine (sized_true _ _ _ _ _ _ (by decide) (by decide) (by decide) (by decide)).mono ?_; rintro e w1 ⟨rfl, hb'⟩; replace hb := below_next hb hb'; replace hl := hl.below hb'; clear hb')
    | (go_at_call 51; refine (next_true _ _ _ _ _ (by decide) (by decide)).mono ?_; rintro e w2 ⟨rfl, hb'⟩; replace hb := below_next hb hb'; clear hb')
    | (go_at_call 52; refine (corner_true _ _ _ _ _ _ _ (by decide) (by decide) (by decide) (by decide) (by decide)).mono ?_; rintro e w3 ⟨rfl, hb'⟩; replace hb := below_next hb hb'; clear hb')
    | (go_at_call 45; refine (awake13_any _).mono ?_; rintro e w9 ⟨rfl, hb'⟩; replace hb := below_next hb hb'; clear hb')
    | (go_at_call 53; refine (place_true _ _ _ _ _ _ _ _ (by decide) (by decide) (by decide) (by decide) (by decide)).mono ?_; rintro e w4 ⟨rfl, hb'⟩; replace hb := below_next hb hb'; clear hb'))
  go_ret
  exact ⟨rfl, hb⟩

theorem corn_val {f g a : Int} (h : f = 0 ∨ f = 1) (hg : g ∈ groupsS f) (ha : 1 ≤ a ∧ a ≤ 33) : cornE f g a = 0 ∧ cornX f g a = cornerX f g a ∧ cornY f g a = cornerY g a := by
  rcases corn_cases f g a with ⟨h1, _⟩ | ⟨_, h1, _⟩ | ⟨_, _, h1, _⟩ | ⟨_, _, _, e1, e2, e3⟩
  · exact absurd h h1
  · exact absurd hg h1
  · exact absurd ha h1
  · exact ⟨e1, e2, e3⟩
theorem pl_val {f g a b : Int} (h : f = 0 ∨ f = 1) (hg : g ∈ groupsS f) (ha : 1 ≤ a ∧ a ≤ 33) (hb : 1 ≤ b ∧ b ≤ 6) : plE f g a b = 0 ∧ plA f g a b = plcV f (cornerX f g a) (cornerY g a) b ∧ plS f g a b = plcS f b := by
  have hc := (corn_val h hg ha).1
  rcases pl_cases f g a b with ⟨_, h1, _⟩ | ⟨_, h1, _⟩ | ⟨_, _, e1, e2, e3⟩
  · exact absurd hc h1
  · exact absurd hb h1
  · exact ⟨e1, e2, e3⟩

set_option maxRecDepth 100000 in
set_option maxHeartbeats 4000000 in
theorem frameRows_0 (x y z : Int) (w : World) (hx0 : -9223372036854775808 ≤ x) (hx1 : x ≤ 9223372036854775807) (hy0 : -9223372036854775808 ≤ y) (hy1 : y ≤ 9223372036854775807) (hz0 : -9223372036854775808 ≤ z) (hz1 : z ≤ 9223372036854775807) (hf : x % 2 = 0) :
    Calls Try.prog 12 #[.int .i64 x, .int .i64 y, .int .i64 z] w fun e w' => e = .returned (.bool true) ∧ Below w.heap.size w w' := by
  obtain ⟨q, hq⟩ : ∃ q, z % 33 = q := ⟨_, rfl⟩
  have hqb : 0 ≤ q ∧ q ≤ 32 := by omega
  obtain ⟨p, hp⟩ : ∃ p : Nat, y % 3 = p := ⟨(y % 3).toNat, by omega⟩
  have hpb : p < 3 := by omega
  have hgs : groupsS 0 = [1, 3, 5] := rfl
  obtain ⟨G, hG⟩ : ∃ G, ([1, 3, 5] : List Int)[p]?.getD 0 = G := ⟨_, rfl⟩
  have hGm : G ∈ groupsS 0 := by
    rw [hgs, ← hG, List.getElem?_eq_getElem (by exact hpb), Option.getD_some]
    exact List.getElem_mem _
  have hGb := groups_bd hGm
  have hF : (0 : Int) = 0 ∨ (0 : Int) = 1 := by decide
  obtain ⟨c1, c2, c3⟩ := corn_val hF hGm (a := 1) (by omega)
  obtain ⟨d1, d2, d3⟩ := corn_val hF hGm (a := 1 + q) (by omega)
  have hW : wideS 0 = 176 := rfl
  have hH : highS 0 = 144 := rfl
  obtain ⟨e11, e12, e13⟩ := pl_val hF hGm (a := 1 + q) (b := 1) (by omega) (by decide)
  obtain ⟨e21, e22, e23⟩ := pl_val hF hGm (a := 1 + q) (b := 2) (by omega) (by decide)
  obtain ⟨e31, e32, e33⟩ := pl_val hF hGm (a := 1 + q) (b := 3) (by omega) (by decide)
  obtain ⟨e41, e42, e43⟩ := pl_val hF hGm (a := 1 + q) (b := 4) (by omega) (by decide)
  obtain ⟨e51, e52, e53⟩ := pl_val hF hGm (a := 1 + q) (b := 5) (by omega) (by decide)
  obtain ⟨e61, e62, e63⟩ := pl_val hF hGm (a := 1 + q) (b := 6) (by omega) (by decide)
  simp [plcV, plcS, hW, hH] at e12 e13 e22 e23 e32 e33 e42 e43 e52 e53 e62 e63
  obtain ⟨X0, hX0⟩ : ∃ X0, cornX 0 G 1 = X0 := ⟨_, rfl⟩
  obtain ⟨Y0, hY0⟩ : ∃ Y0, cornY 0 G 1 = Y0 := ⟨_, rfl⟩
  have xs : 0 ≤ X0 ∧ X0 ≤ 176 ∧ X0 % 176 = 0 ∧ 0 ≤ Y0 ∧ Y0 ≤ 240 ∧ Y0 % 48 = 0 ∧ cornerX 0 G (1 + q) = X0 + q % 11 * 16 ∧ cornerY G (1 + q) = Y0 + q / 11 * 16 := by
    rw [← hX0, ← hY0, c2, c3]
    unfold cornerX cornerY
    clear e12 e22 e32 e42 e52 e62
    omega
  obtain ⟨x1, x2, x3, y1, y2, y3, kx, ky⟩ := xs
  rw [kx, ky] at e12 e22 e32 e42 e52 e62
  rw [kx] at d2
  rw [ky] at d3
  have HC := Lib.hid (And.intro hX0 (And.intro hY0 c1))
  have HD := Lib.hid (And.intro d1 (And.intro d2 d3))
  have HP := Lib.hid (And.intro (And.intro e11 (And.intro e12 e13)) (And.intro (And.intro e21 (And.intro e22 e23)) (And.intro (And.intro e31 (And.intro e32 e33)) (And.intro (And.intro e41 (And.intro e42 e43)) (And.intro (And.intro e51 (And.intro e52 e53)) (And.intro e61 (And.intro e62 e63)))))))
  have HQ := Lib.hid (And.intro hq (And.intro hp hf))
  have HG := Lib.hid hG
  have HS := Lib.hid (And.intro hW hH)
  have HGS := Lib.hid hgs
  have t1 : (X0 % 176 != 0) = false := by rw [x3]; rfl
  have t2 : (Y0 % 48 != 0) = false := by rw [y3]; rfl
  have hb := Below.refl w.heap.size w
  clear hX0 hY0 c1 c2 c3 d1 d2 d3 e11 e12 e13 e21 e22 e23 e31 e32 e33 e41 e42 e43 e51 e52 e53 e61 e62 e63 hq hp hf hG hgs kx ky x3 y3 hGm hF hW hH
  go_enter Try.func12, Try.ntmps12
  go_wp2_with (first
    | (go_at_call 21; refine (pick_any _ _ _ (by omega) (by omega) (by decide) (by decide)).mono ?_; (first | rw [HQ.out.1] | rw [HQ.out.2.1] | rw [HQ.out.2.2]); rintro e w' ⟨rfl, rfl⟩)
    | (go_at_call 10; refine (frameKnown_any _).mono ?_; rintro e w1 ⟨rfl, hb'⟩; replace hb := below_next hb hb'; clear hb')
    | (go_at_call 39; refine (Groups_any 0 _).mono ?_; rw [HGS.out]; rintro e w2 ⟨⟨l, rfl, hl0⟩, hb'⟩; replace hb := below_next hb hb'; clear hb'; obtain ⟨lb, loff, lcap, rfl, hlb, hlc, hcell⟩ := (Rd.of_owns (xs := [1, 3, 5]) hl0 (by decide)).solid (by decide); have hc := hcell p hpb; rw [HG.out] at hc; clear hcell hl0)
    | (go_at_call 46; refine (Corner_any _ _ _ _ (by decide) (by decide)).mono ?_; rw [HC.out.1, HC.out.2.1, HC.out.2.2]; rintro e w3 ⟨rfl, hb'⟩; replace hb := below_next hb hb'; clear hb')
    | (go_at_call 37; refine (size_any _ _).mono ?_; rw [HS.out.1, HS.out.2]; rintro e w' ⟨rfl, rfl⟩)
    | (go_at_call 52; refine (corner_true _ _ _ _ _ _ _ (by omega) (by omega) (by have := HD.out; omega) (by have := HD.out; omega) (by have := HD.out; omega)).mono ?_; rintro e w3 ⟨rfl, hb'⟩; replace hb := below_next hb hb'; clear hb')
    | (go_at_call 53; refine (place_true _ _ _ _ _ _ _ _ (by omega) (by omega) (by have := HP.out; omega) (by have := HP.out; omega) (by have := HP.out; omega)).mono ?_; rintro e w4 ⟨rfl, hb'⟩; replace hb := below_next hb hb'; clear hb'))
  go_ret
  exact ⟨rfl, hb⟩

set_option maxRecDepth 100000 in
set_option maxHeartbeats 4000000 in
theorem frameRows_1 (x y z : Int) (w : World) (hx0 : -9223372036854775808 ≤ x) (hx1 : x ≤ 9223372036854775807) (hy0 : -9223372036854775808 ≤ y) (hy1 : y ≤ 9223372036854775807) (hz0 : -9223372036854775808 ≤ z) (hz1 : z ≤ 9223372036854775807) (hf : x % 2 = 1) :
    Calls Try.prog 12 #[.int .i64 x, .int .i64 y, .int .i64 z] w fun e w' => e = .returned (.bool true) ∧ Below w.heap.size w w' := by
  obtain ⟨q, hq⟩ : ∃ q, z % 33 = q := ⟨_, rfl⟩
  have hqb : 0 ≤ q ∧ q ≤ 32 := by omega
  obtain ⟨p, hp⟩ : ∃ p : Nat, y % 12 = p := ⟨(y % 12).toNat, by omega⟩
  have hpb : p < 12 := by omega
  have hgs : groupsS 1 = [1, 2, 3, 4, 5, 6, 7, 8, 9, 10, 11, 12] := rfl
  obtain ⟨G, hG⟩ : ∃ G, ([1, 2, 3, 4, 5, 6, 7, 8, 9, 10, 11, 12] : List Int)[p]?.getD 0 = G := ⟨_, rfl⟩
  have hGm : G ∈ groupsS 1 := by
    rw [hgs, ← hG, List.getElem?_eq_getElem (by exact hpb), Option.getD_some]
    exact List.getElem_mem _
  have hGb := groups_bd hGm
  have hF : (1 : Int) = 0 ∨ (1 : Int) = 1 := by decide
  obtain ⟨c1, c2, c3⟩ := corn_val hF hGm (a := 1) (by omega)
  obtain ⟨d1, d2, d3⟩ := corn_val hF hGm (a := 1 + q) (by omega)
  have hW : wideS 1 = 352 := rfl
  have hH : highS 1 = 288 := rfl
  obtain ⟨e11, e12, e13⟩ := pl_val hF hGm (a := 1 + q) (b := 1) (by omega) (by decide)
  obtain ⟨e21, e22, e23⟩ := pl_val hF hGm (a := 1 + q) (b := 2) (by omega) (by decide)
  obtain ⟨e31, e32, e33⟩ := pl_val hF hGm (a := 1 + q) (b := 3) (by omega) (by decide)
  obtain ⟨e41, e42, e43⟩ := pl_val hF hGm (a := 1 + q) (b := 4) (by omega) (by decide)
  obtain ⟨e51, e52, e53⟩ := pl_val hF hGm (a := 1 + q) (b := 5) (by omega) (by decide)
  obtain ⟨e61, e62, e63⟩ := pl_val hF hGm (a := 1 + q) (b := 6) (by omega) (by decide)
  simp [plcV, plcS, hW, hH] at e12 e13 e22 e23 e32 e33 e42 e43 e52 e53 e62 e63
  obtain ⟨X0, hX0⟩ : ∃ X0, cornX 1 G 1 = X0 := ⟨_, rfl⟩
  obtain ⟨Y0, hY0⟩ : ∃ Y0, cornY 1 G 1 = Y0 := ⟨_, rfl⟩
  have xs : 0 ≤ X0 ∧ X0 ≤ 176 ∧ X0 % 176 = 0 ∧ 0 ≤ Y0 ∧ Y0 ≤ 240 ∧ Y0 % 48 = 0 ∧ cornerX 1 G (1 + q) = X0 + q % 11 * 16 ∧ cornerY G (1 + q) = Y0 + q / 11 * 16 := by
    rw [← hX0, ← hY0, c2, c3]
    unfold cornerX cornerY
    clear e12 e22 e32 e42 e52 e62
    omega
  obtain ⟨x1, x2, x3, y1, y2, y3, kx, ky⟩ := xs
  rw [kx, ky] at e12 e22 e32 e42 e52 e62
  rw [kx] at d2
  rw [ky] at d3
  have HC := Lib.hid (And.intro hX0 (And.intro hY0 c1))
  have HD := Lib.hid (And.intro d1 (And.intro d2 d3))
  have HP := Lib.hid (And.intro (And.intro e11 (And.intro e12 e13)) (And.intro (And.intro e21 (And.intro e22 e23)) (And.intro (And.intro e31 (And.intro e32 e33)) (And.intro (And.intro e41 (And.intro e42 e43)) (And.intro (And.intro e51 (And.intro e52 e53)) (And.intro e61 (And.intro e62 e63)))))))
  have HQ := Lib.hid (And.intro hq (And.intro hp hf))
  have HG := Lib.hid hG
  have HS := Lib.hid (And.intro hW hH)
  have HGS := Lib.hid hgs
  have t1 : (X0 % 176 != 0) = false := by rw [x3]; rfl
  have t2 : (Y0 % 48 != 0) = false := by rw [y3]; rfl
  have hb := Below.refl w.heap.size w
  clear hX0 hY0 c1 c2 c3 d1 d2 d3 e11 e12 e13 e21 e22 e23 e31 e32 e33 e41 e42 e43 e51 e52 e53 e61 e62 e63 hq hp hf hG hgs kx ky x3 y3 hGm hF hW hH
  go_enter Try.func12, Try.ntmps12
  go_wp2_with (first
    | (go_at_call 21; refine (pick_any _ _ _ (by omega) (by omega) (by decide) (by decide)).mono ?_; (first | rw [HQ.out.1] | rw [HQ.out.2.1] | rw [HQ.out.2.2]); rintro e w' ⟨rfl, rfl⟩)
    | (go_at_call 10; refine (frameKnown_any _).mono ?_; rintro e w1 ⟨rfl, hb'⟩; replace hb := below_next hb hb'; clear hb')
    | (go_at_call 39; refine (Groups_any 1 _).mono ?_; rw [HGS.out]; rintro e w2 ⟨⟨l, rfl, hl0⟩, hb'⟩; replace hb := below_next hb hb'; clear hb'; obtain ⟨lb, loff, lcap, rfl, hlb, hlc, hcell⟩ := (Rd.of_owns (xs := [1, 2, 3, 4, 5, 6, 7, 8, 9, 10, 11, 12]) hl0 (by decide)).solid (by decide); have hc := hcell p hpb; rw [HG.out] at hc; clear hcell hl0)
    | (go_at_call 46; refine (Corner_any _ _ _ _ (by decide) (by decide)).mono ?_; rw [HC.out.1, HC.out.2.1, HC.out.2.2]; rintro e w3 ⟨rfl, hb'⟩; replace hb := below_next hb hb'; clear hb')
    | (go_at_call 37; refine (size_any _ _).mono ?_; rw [HS.out.1, HS.out.2]; rintro e w' ⟨rfl, rfl⟩)
    | (go_at_call 52; refine (corner_true _ _ _ _ _ _ _ (by omega) (by omega) (by have := HD.out; omega) (by have := HD.out; omega) (by have := HD.out; omega)).mono ?_; rintro e w3 ⟨rfl, hb'⟩; replace hb := below_next hb hb'; clear hb')
    | (go_at_call 53; refine (place_true _ _ _ _ _ _ _ _ (by omega) (by omega) (by have := HP.out; omega) (by have := HP.out; omega) (by have := HP.out; omega)).mono ?_; rintro e w4 ⟨rfl, hb'⟩; replace hb := below_next hb hb'; clear hb'))
  go_ret
  exact ⟨rfl, hb⟩

theorem frameRows_any (x y z : Int) (w : World) (hx : -9223372036854775808 ≤ x ∧ x ≤ 9223372036854775807) (hy : -9223372036854775808 ≤ y ∧ y ≤ 9223372036854775807) (hz : -9223372036854775808 ≤ z ∧ z ≤ 9223372036854775807) :
    Calls Try.prog 12 #[.int .i64 x, .int .i64 y, .int .i64 z] w fun e w' => e = .returned (.bool true) ∧ Below w.heap.size w w' := by
  rcases (show x % 2 = 0 ∨ x % 2 = 1 by omega) with h | h
  · exact frameRows_0 x y z w hx.1 hx.2 hy.1 hy.2 hz.1 hz.2 h
  · exact frameRows_1 x y z w hx.1 hx.2 hy.1 hy.2 hz.1 hz.2 h
end Go.Proofs.Ytcieggaihelacaa
