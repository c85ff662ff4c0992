/- Layer 14's statement MotionThere, walked: format 0, block 5. -/
import Derived.Test.YtcieggaihelacaaBtm
set_option linter.unusedSimpArgs false
set_option linter.unusedVariables false
namespace Go.Proofs.Ytcieggaihelacaa
open Go.RowKit
set_option maxRecDepth 100000
set_option maxRecDepth 2000000 in
set_option maxHeartbeats 16000000 in
theorem motionThere_0_5 (x0 x1 x2 x3 x4 x5 x6 x7 : Int) (w : World) (h0 : -9223372036854775808 ≤ x0 ∧ x0 ≤ 9223372036854775807) (h1 : -9223372036854775808 ≤ x1 ∧ x1 ≤ 9223372036854775807) (h2 : -9223372036854775808 ≤ x2 ∧ x2 ≤ 9223372036854775807) (h3 : -9223372036854775808 ≤ x3 ∧ x3 ≤ 9223372036854775807) (h4 : -9223372036854775808 ≤ x4 ∧ x4 ≤ 9223372036854775807) (h5 : -9223372036854775808 ≤ x5 ∧ x5 ≤ 9223372036854775807) (hx0 : x0 % 2 = 0) (hb : x3 % 6 = 4) :
    Calls Try.prog 15 #[.int .i64 x0, .int .i64 x1, .int .i64 x2, .int .i64 x3, .int .i64 x4, .int .i64 x5, .int .i64 x6, .int .i64 x7] w fun e w' => e = .returned (.bool true) ∧ Below w.heap.size w w' := by
  have hqb : x3 % 6 = 4 := hb
  obtain ⟨qx, hqx⟩ : ∃ q, x4 % 31 = q := ⟨_, rfl⟩
  obtain ⟨qy, hqy⟩ : ∃ q, x5 % 31 = q := ⟨_, rfl⟩
  have hxb : 0 ≤ qx ∧ qx ≤ 30 := by omega
  have hyb : 0 ≤ qy ∧ qy ≤ 30 := by omega
  have HP := Lib.hid (And.intro hqb (And.intro hqx hqy))
  obtain ⟨qa, hqa⟩ : ∃ qa, x2 % 33 = qa := ⟨_, rfl⟩
  have hab : 0 ≤ qa ∧ qa ≤ 32 := by omega
  have hs := spot_any x0 x1 x2
  rw [hqa] at hs
  have HS := Lib.hid hs
  have HX0 := Lib.hid hx0
  clear hb hqb hqx hqy hs hqa hx0
  go_enter Try.func15, Try.ntmps15
  go_wp2_with (first
    | (go_at_call 5; refine (motionKnown_any _).mono ?_; rintro e w1 ⟨rfl, hb1⟩; have HB1 := Lib.hid hb1; clear hb1)
    | (go_at_call 36; refine (HS.out _ h0.1 h0.2 h1.1 h1.2 h2.1 h2.2).mono ?_; rintro e w2 ⟨⟨f, g, rfl, hfx, _, hg⟩, hb2⟩; rw [HX0.out] at hfx; subst hfx; have S0 := Lib.hid (St.nil (w2.alloc (Obj.cells #[.int .i64 0, .int .i64 g, .int .i64 (1 + qa)] 23))); have HB2 := Lib.hid ((below_nxt HB1.out hb2).alloc (below_nxt HB1.out hb2).size (Obj.cells #[.int .i64 0, .int .i64 g, .int .i64 (1 + qa)] 23)); have HG := Lib.hid hg; clear hb2 hg)
    | (go_at_call 21; refine (pick_any _ _ _ (by omega) (by omega) (by decide) (by decide)).mono ?_; (first | rw [HP.out.1] | rw [HP.out.2.1] | rw [HP.out.2.2]); rintro e w' ⟨rfl, rfl⟩))
  refine (scene_any 0 x6 x7 _ (by decide)).mono ?_
  rintro e w3 ⟨⟨g3, n, xs, rfl, hns, hxs, _, hg3, hp3⟩, hb3⟩
  have S3 := Lib.hid (S0.out.push hb3 hg3 hp3)
  have hn : n = 38016 := (by have e : bytesS 0 = 38016 := (by decide); omega)
  subst hn
  have HN := Lib.hid hns
  have HXS := Lib.hid hxs
  clear hns hxs hg3 hp3 hb3
  obtain ⟨X0, hX0⟩ : ∃ X0, qx - 15 = X0 := ⟨_, rfl⟩
  obtain ⟨Y0, hY0⟩ : ∃ Y0, qy - 15 = Y0 := ⟨_, rfl⟩
  rw [hX0, hY0]
  have hxr : -15 ≤ X0 ∧ X0 ≤ 15 := by omega
  have hyr : -15 ≤ Y0 ∧ Y0 ≤ 15 := by omega
  clear hX0 hY0 hxb hyb
  obtain ⟨HX, hHX⟩ : ∃ h, halfS X0 = h := ⟨_, rfl⟩
  obtain ⟨HY, hHY⟩ : ∃ h, halfS Y0 = h := ⟨_, rfl⟩
  obtain ⟨u1, u2, u3⟩ := halfS_bd hxr
  obtain ⟨v1, v2, v3⟩ := halfS_bd hyr
  rw [hHX] at u1 u2 u3
  rw [hHY] at v1 v2 v3
  have HH := Lib.hid (And.intro hHX (And.intro hHY trivial))
  obtain ⟨q0, q1, q2, q3⟩ := corner_bd (f := 0) (by decide) HG.out (a := 1 + qa) (by omega)
  have hfit := there_fit (f := 0) (by decide) HG.out (a := 1 + qa) (by omega) hxr hyr
  have hfe : ∀ m : Nat, (m : Int) = bytesS 0 → fetE 0 g (1 + qa) m 5 X0 Y0 = fitsE 0 g (1 + qa) X0 Y0 := fun m hm => fetE_fit (by decide) HG.out (by omega) hm (by omega)
  have hpl : ∀ k : Nat, k < 64 → 0 ≤ cornerX 0 g (1 + qa) + X0 → cornerX 0 g (1 + qa) + X0 + 16 ≤ wideS 0 → 0 ≤ cornerY g (1 + qa) + Y0 → cornerY g (1 + qa) + Y0 + 16 ≤ highS 0 → _ := fun k hk a1 a2 a3 a4 => there_plane (b := 5) (f := 0) (by decide) HG.out (a := 1 + qa) (by omega) (by omega) hxr hyr hk a1 a2 a3 a4
  have hin : ∀ k : Nat, k < 64 → fitsE 0 g (1 + qa) X0 Y0 = 0 → 0 ≤ fetI 0 g (1 + qa) 5 X0 Y0 k ∧ fetI 0 g (1 + qa) 5 X0 Y0 k < (38016 : Nat) := fun k hk e => fetI_in (n := 38016) (corn_zero (by decide) HG.out (by omega)) HN.out (by omega) e hk
  have hfI : ∀ k : Nat, fetI 0 g (1 + qa) 5 X0 Y0 k = plcV 0 (cornerX 0 g (1 + qa)) (cornerY g (1 + qa)) 5 + ((k : Int) / 8 + HY) * 88 + (k : Int) % 8 + HX := fun k => by
    unfold fetI
    rw [show sxS 5 X0 = HX from by unfold sxS; rw [if_pos (by decide)]; exact HH.out.1, show sxS 5 Y0 = HY from by unfold sxS; rw [if_pos (by decide)]; exact HH.out.2.1, show plcS 0 5 = 88 from by unfold plcS; first | (rw [if_pos (by omega)]; rfl) | (rw [if_neg (by decide)]; rfl)]
  have hA : 0 ≤ plcV 0 (cornerX 0 g (1 + qa)) (cornerY g (1 + qa)) 5 ∧ plcV 0 (cornerX 0 g (1 + qa)) (cornerY g (1 + qa)) 5 ≤ 152064 := by
    obtain ⟨e1, e2⟩ := layQ_is (f := 0) (g := g) (a := 1 + qa) (b := 5) (n := 38016) (i := 0) (corn_zero (by decide) HG.out (by omega)) HN.out (by omega) (by decide)
    rw [fetI_0, show ((0 : Nat) : Int) / 8 = 0 by decide, Int.zero_mul] at e1
    omega
  have hpv : plcS 0 5 = 88 := by unfold plcS; first | (rw [if_pos (by omega)]; rfl) | (rw [if_neg (by decide)]; rfl)
  rw [show wideS 0 = 176 from rfl] at q1 hfit
  rw [show highS 0 = 144 from rfl] at q3 hfit
  obtain ⟨A, hAA⟩ : ∃ A, plcV 0 (cornerX 0 g (1 + qa)) (cornerY g (1 + qa)) 5 = A := ⟨_, rfl⟩
  rw [hAA] at hA
  simp only [hAA] at hfI
  obtain ⟨CX, hCX⟩ : ∃ C, cornerX 0 g (1 + qa) = C := ⟨_, rfl⟩
  obtain ⟨CY, hCY⟩ : ∃ C, cornerY g (1 + qa) = C := ⟨_, rfl⟩
  rw [hCX] at q0 q1 hfit
  rw [hCY] at q2 q3 hfit
  simp only [hCX, hCY] at hpl
  obtain ⟨FT, hFT⟩ : ∃ C, fitsE 0 g (1 + qa) X0 Y0 = C := ⟨_, rfl⟩
  rw [hFT] at hfit hin
  simp only [hFT] at hfe
  have HFT := Lib.hid hFT
  have HC := Lib.hid (And.intro hCX hCY)
  have HA := Lib.hid (And.intro hAA hpv)
  have HFE := Lib.hid hfe
  have HPL := Lib.hid hpl
  have HIN := Lib.hid hin
  have HFI := Lib.hid hfI
  have HSZ : Hid (wideS 0 = 176 ∧ highS 0 = 144 ∧ bytesS 0 = 38016 ∧ fmtE 0 = 0) := Lib.hid (by decide)
  have e1 : IntKind.i64.wrap (CX + X0) = CX + X0 := w64 (by omega) (by omega)
  have e2 : IntKind.i64.wrap (CX + X0 + 16) = CX + X0 + 16 := w64 (by omega) (by omega)
  have e3 : IntKind.i64.wrap (CY + Y0) = CY + Y0 := w64 (by omega) (by omega)
  have e4 : IntKind.i64.wrap (CY + Y0 + 16) = CY + Y0 + 16 := w64 (by omega) (by omega)
  obtain ⟨c0, c1, c2⟩ := box_cells S3.out
  clear hfe hpl hin hfI hAA hpv hCX hCY hFT hHX hHY
  rcases hfit with ⟨hft, ho | ⟨ho1, ho2⟩ | ⟨ho1, ho2, ho3⟩ | ⟨ho1, ho2, ho3, ho4⟩⟩ | ⟨hft, ho1, ho2, ho3, ho4⟩
  · have d1 : Hid (FT = 12) := Lib.hid hft
    have hneg : decide (0 ≤ CX + X0) = false := decide_eq_false (by omega)
    clear ho
    clear hft
    go_wp2_with (first
      | (go_at_call 48; refine (place_ok' 0 g (1 + qa) 5 _ (by decide) HG.out (by omega) (by omega)).mono ?_; rw [HA.out.1, HA.out.2]; rintro e w4 ⟨rfl, hb'⟩; have S4 := Lib.hid (S3.out.below hb'); clear hb' c0 c1 c2; obtain ⟨c0, c1, c2⟩ := box_cells S4.out)
      | (go_at_call 37; refine (size_any 0 _).mono ?_; rw [HSZ.out.1, HSZ.out.2.1, HSZ.out.2.2.1, HSZ.out.2.2.2]; rintro e w' ⟨rfl, rfl⟩)
      | (go_at_call 46; refine (corner_ok' 0 g (1 + qa) _ (by decide) HG.out (by omega)).mono ?_; rw [HC.out.1, HC.out.2]; rintro e w5 ⟨rfl, hb'⟩; have S5 := Lib.hid (S4.out.below hb'); clear hb' c0 c1 c2; obtain ⟨c0, c1, c2⟩ := box_cells S5.out)
      | (go_at_call 23; refine (fetch_any 0 g (1 + qa) 5 X0 Y0 (.slice (some ⟨g3, 0, none⟩) 38016 38016) xs _ ((S5.out.pic 0 rfl).rdn HXS.out (by decide) (by decide)) (by omega) (by omega) (by omega) (by omega) (by omega) (by omega)).mono ?_; rw [HFE.out xs.length (by rw [HXS.out]; exact HN.out), d1.out]; rintro e w6 ⟨⟨u, rfl, hu⟩, hb'⟩; obtain ⟨ua, uc, rfl⟩ := own_none hu (fetL_none (by rw [HFE.out xs.length (by rw [HXS.out]; exact HN.out), d1.out]; decide)); have S6 := Lib.hid (S5.out.below hb'); clear hb' hu c0 c1 c2; obtain ⟨c0, c1, c2⟩ := box_cells S6.out)
      | (go_at_call 26; refine (fits_any 0 g (1 + qa) X0 Y0 _ (by omega) (by omega) (by omega) (by omega) (by omega) (by omega)).mono ?_; rw [HFT.out, d1.out]; rintro e w7 ⟨rfl, hb'⟩; have S7 := Lib.hid (S6.out.below hb'); clear hb'))
    go_ret
    exact ⟨rfl, HB2.out.trans (S7.out.old.mono HB2.out.size)⟩
  · have d1 : Hid (FT = 12) := Lib.hid hft
    have hneg : decide (CX + X0 + 16 ≤ 176) = false := decide_eq_false (by omega)
    clear ho2
    clear hft
    go_wp2_with (first
      | (go_at_call 48; refine (place_ok' 0 g (1 + qa) 5 _ (by decide) HG.out (by omega) (by omega)).mono ?_; rw [HA.out.1, HA.out.2]; rintro e w4 ⟨rfl, hb'⟩; have S4 := Lib.hid (S3.out.below hb'); clear hb' c0 c1 c2; obtain ⟨c0, c1, c2⟩ := box_cells S4.out)
      | (go_at_call 37; refine (size_any 0 _).mono ?_; rw [HSZ.out.1, HSZ.out.2.1, HSZ.out.2.2.1, HSZ.out.2.2.2]; rintro e w' ⟨rfl, rfl⟩)
      | (go_at_call 46; refine (corner_ok' 0 g (1 + qa) _ (by decide) HG.out (by omega)).mono ?_; rw [HC.out.1, HC.out.2]; rintro e w5 ⟨rfl, hb'⟩; have S5 := Lib.hid (S4.out.below hb'); clear hb' c0 c1 c2; obtain ⟨c0, c1, c2⟩ := box_cells S5.out)
      | (go_at_call 23; refine (fetch_any 0 g (1 + qa) 5 X0 Y0 (.slice (some ⟨g3, 0, none⟩) 38016 38016) xs _ ((S5.out.pic 0 rfl).rdn HXS.out (by decide) (by decide)) (by omega) (by omega) (by omega) (by omega) (by omega) (by omega)).mono ?_; rw [HFE.out xs.length (by rw [HXS.out]; exact HN.out), d1.out]; rintro e w6 ⟨⟨u, rfl, hu⟩, hb'⟩; obtain ⟨ua, uc, rfl⟩ := own_none hu (fetL_none (by rw [HFE.out xs.length (by rw [HXS.out]; exact HN.out), d1.out]; decide)); have S6 := Lib.hid (S5.out.below hb'); clear hb' hu c0 c1 c2; obtain ⟨c0, c1, c2⟩ := box_cells S6.out)
      | (go_at_call 26; refine (fits_any 0 g (1 + qa) X0 Y0 _ (by omega) (by omega) (by omega) (by omega) (by omega) (by omega)).mono ?_; rw [HFT.out, d1.out]; rintro e w7 ⟨rfl, hb'⟩; have S7 := Lib.hid (S6.out.below hb'); clear hb'))
    go_ret
    exact ⟨rfl, HB2.out.trans (S7.out.old.mono HB2.out.size)⟩
  · have d1 : Hid (FT = 12) := Lib.hid hft
    have hneg : decide (0 ≤ CY + Y0) = false := decide_eq_false (by omega)
    clear ho3
    clear hft
    go_wp2_with (first
      | (go_at_call 48; refine (place_ok' 0 g (1 + qa) 5 _ (by decide) HG.out (by omega) (by omega)).mono ?_; rw [HA.out.1, HA.out.2]; rintro e w4 ⟨rfl, hb'⟩; have S4 := Lib.hid (S3.out.below hb'); clear hb' c0 c1 c2; obtain ⟨c0, c1, c2⟩ := box_cells S4.out)
      | (go_at_call 37; refine (size_any 0 _).mono ?_; rw [HSZ.out.1, HSZ.out.2.1, HSZ.out.2.2.1, HSZ.out.2.2.2]; rintro e w' ⟨rfl, rfl⟩)
      | (go_at_call 46; refine (corner_ok' 0 g (1 + qa) _ (by decide) HG.out (by omega)).mono ?_; rw [HC.out.1, HC.out.2]; rintro e w5 ⟨rfl, hb'⟩; have S5 := Lib.hid (S4.out.below hb'); clear hb' c0 c1 c2; obtain ⟨c0, c1, c2⟩ := box_cells S5.out)
      | (go_at_call 23; refine (fetch_any 0 g (1 + qa) 5 X0 Y0 (.slice (some ⟨g3, 0, none⟩) 38016 38016) xs _ ((S5.out.pic 0 rfl).rdn HXS.out (by decide) (by decide)) (by omega) (by omega) (by omega) (by omega) (by omega) (by omega)).mono ?_; rw [HFE.out xs.length (by rw [HXS.out]; exact HN.out), d1.out]; rintro e w6 ⟨⟨u, rfl, hu⟩, hb'⟩; obtain ⟨ua, uc, rfl⟩ := own_none hu (fetL_none (by rw [HFE.out xs.length (by rw [HXS.out]; exact HN.out), d1.out]; decide)); have S6 := Lib.hid (S5.out.below hb'); clear hb' hu c0 c1 c2; obtain ⟨c0, c1, c2⟩ := box_cells S6.out)
      | (go_at_call 26; refine (fits_any 0 g (1 + qa) X0 Y0 _ (by omega) (by omega) (by omega) (by omega) (by omega) (by omega)).mono ?_; rw [HFT.out, d1.out]; rintro e w7 ⟨rfl, hb'⟩; have S7 := Lib.hid (S6.out.below hb'); clear hb'))
    go_ret
    exact ⟨rfl, HB2.out.trans (S7.out.old.mono HB2.out.size)⟩
  · have d1 : Hid (FT = 12) := Lib.hid hft
    have hneg : decide (CY + Y0 + 16 ≤ 144) = false := decide_eq_false (by omega)
    clear ho4
    clear hft
    go_wp2_with (first
      | (go_at_call 48; refine (place_ok' 0 g (1 + qa) 5 _ (by decide) HG.out (by omega) (by omega)).mono ?_; rw [HA.out.1, HA.out.2]; rintro e w4 ⟨rfl, hb'⟩; have S4 := Lib.hid (S3.out.below hb'); clear hb' c0 c1 c2; obtain ⟨c0, c1, c2⟩ := box_cells S4.out)
      | (go_at_call 37; refine (size_any 0 _).mono ?_; rw [HSZ.out.1, HSZ.out.2.1, HSZ.out.2.2.1, HSZ.out.2.2.2]; rintro e w' ⟨rfl, rfl⟩)
      | (go_at_call 46; refine (corner_ok' 0 g (1 + qa) _ (by decide) HG.out (by omega)).mono ?_; rw [HC.out.1, HC.out.2]; rintro e w5 ⟨rfl, hb'⟩; have S5 := Lib.hid (S4.out.below hb'); clear hb' c0 c1 c2; obtain ⟨c0, c1, c2⟩ := box_cells S5.out)
      | (go_at_call 23; refine (fetch_any 0 g (1 + qa) 5 X0 Y0 (.slice (some ⟨g3, 0, none⟩) 38016 38016) xs _ ((S5.out.pic 0 rfl).rdn HXS.out (by decide) (by decide)) (by omega) (by omega) (by omega) (by omega) (by omega) (by omega)).mono ?_; rw [HFE.out xs.length (by rw [HXS.out]; exact HN.out), d1.out]; rintro e w6 ⟨⟨u, rfl, hu⟩, hb'⟩; obtain ⟨ua, uc, rfl⟩ := own_none hu (fetL_none (by rw [HFE.out xs.length (by rw [HXS.out]; exact HN.out), d1.out]; decide)); have S6 := Lib.hid (S5.out.below hb'); clear hb' hu c0 c1 c2; obtain ⟨c0, c1, c2⟩ := box_cells S6.out)
      | (go_at_call 26; refine (fits_any 0 g (1 + qa) X0 Y0 _ (by omega) (by omega) (by omega) (by omega) (by omega) (by omega)).mono ?_; rw [HFT.out, d1.out]; rintro e w7 ⟨rfl, hb'⟩; have S7 := Lib.hid (S6.out.below hb'); clear hb'))
    go_ret
    exact ⟨rfl, HB2.out.trans (S7.out.old.mono HB2.out.size)⟩
  have HFZ := Lib.hid hft
  have HO := Lib.hid (And.intro ho1 (And.intro ho2 (And.intro ho3 ho4)))
  clear hft
  go_wp2_with (first
    | (go_at_call 48; refine (place_ok' 0 g (1 + qa) 5 _ (by decide) HG.out (by omega) (by omega)).mono ?_; rw [HA.out.1, HA.out.2]; rintro e w4 ⟨rfl, hb'⟩; have S4 := Lib.hid (S3.out.below hb'); clear hb' c0 c1 c2; obtain ⟨c0, c1, c2⟩ := box_cells S4.out)
    | (go_at_call 37; refine (size_any 0 _).mono ?_; rw [HSZ.out.1, HSZ.out.2.1, HSZ.out.2.2.1, HSZ.out.2.2.2]; rintro e w' ⟨rfl, rfl⟩)
    | (go_at_call 46; refine (corner_ok' 0 g (1 + qa) _ (by decide) HG.out (by omega)).mono ?_; rw [HC.out.1, HC.out.2]; rintro e w5 ⟨rfl, hb'⟩; have S5 := Lib.hid (S4.out.below hb'); clear hb' c0 c1 c2; obtain ⟨c0, c1, c2⟩ := box_cells S5.out)
    | (go_at_call 23; refine (fetch_any 0 g (1 + qa) 5 X0 Y0 (.slice (some ⟨g3, 0, none⟩) 38016 38016) xs _ ((S5.out.pic 0 rfl).rdn HXS.out (by decide) (by decide)) (by omega) (by omega) (by omega) (by omega) (by omega) (by omega)).mono ?_; have hE := HFE.out xs.length (by rw [HXS.out]; exact HN.out); rw [hE, HFZ.out]; rintro e w6 ⟨⟨u, rfl, hu⟩, hb'⟩; obtain ⟨L, hL⟩ : ∃ L, fetL 0 g (1 + qa) xs 5 X0 Y0 = L := ⟨_, rfl⟩; have hLv := fetL_len (hE.trans HFZ.out); rw [hL] at hu hLv; have hL64 : L.length = 64 := (by rw [hLv]; simp); obtain ⟨g6, t6, rfl, hg6, hp6⟩ := own_pic' hu hL64; have HLV := Lib.hid (And.intro hLv hL64); have S6 := Lib.hid (S5.out.push hb' hg6 hp6); clear hb' hu hg6 hp6 hL hLv hL64 hE c0 c1 c2; obtain ⟨c0, c1, c2⟩ := box_cells S6.out)
    | (go_at_call 26; refine (fits_any 0 g (1 + qa) X0 Y0 _ (by omega) (by omega) (by omega) (by omega) (by omega) (by omega)).mono ?_; rw [HFT.out, HFZ.out]; rintro e w7 ⟨rfl, hb'⟩; have S7 := Lib.hid (S6.out.below hb'); clear hb' c0 c1 c2))
  clear ho1 ho2 ho3 ho4 e1 e2 e3 e4
  go_loopw [33, 34] (fun i _ wr => ∃ k : Nat, k ≤ 64 ∧ i = .int .i64 k ∧ St (w2.alloc (Obj.cells #[.int .i64 0, .int .i64 g, .int .i64 (1 + qa)] 23)) [(g6, L, t6), (g3, xs, [])] wr) (fun i _ _ => 70 - (intOf i).toNat)
  case atStart => exact ⟨0, by omega, rfl, S7.out⟩
  case round =>
    obtain ⟨k, hk, rfl, hst⟩ := hrel
    by_cases hlt : k < 64
    · have hlt' : (k : Int) < 64 := by omega
      obtain ⟨i0, i1⟩ := HIN.out k hlt HFZ.out
      have hpl := HPL.out k hlt HO.out.1 HO.out.2.1 HO.out.2.2.1 HO.out.2.2.2
      rw [HSZ.out.1, HSZ.out.2.1] at hpl
      have hfi := HFI.out k
      obtain ⟨N, hN⟩ : ∃ N : Nat, fetI 0 g (1 + qa) 5 X0 Y0 k = N := ⟨(fetI 0 g (1 + qa) 5 X0 Y0 k).toNat, by omega⟩
      have ck2 := (hst.pic 0 rfl).cell (i := k) (by rw [HLV.out.2]; exact hlt)
      rw [HLV.out.1, List.getElem?_map, List.getElem?_range hlt, Option.map_some, Option.getD_some, hN, show ((N : Int)).toNat = N from rfl] at ck2
      rw [hN] at i0 i1 hpl hfi
      have ck1 := (hst.pic 1 rfl).cell (i := N) (by rw [HXS.out]; omega)
      obtain ⟨v, hv⟩ : ∃ v, xs[N]?.getD 0 = v := ⟨_, rfl⟩
      rw [hv] at ck1 ck2
      have hsum := hfi.symm
      have y0 : IntKind.i64.wrap ((k : Int) / 8 + HY) = (k : Int) / 8 + HY := w64 (by omega) (by omega)
      have y1 : IntKind.i64.wrap (((k : Int) / 8 + HY) * 88) = ((k : Int) / 8 + HY) * 88 := w64 (by omega) (by omega)
      have y2 : IntKind.i64.wrap (A + ((k : Int) / 8 + HY) * 88) = A + ((k : Int) / 8 + HY) * 88 := w64 (by omega) (by omega)
      have y3 : IntKind.i64.wrap (A + ((k : Int) / 8 + HY) * 88 + (k : Int) % 8) = A + ((k : Int) / 8 + HY) * 88 + (k : Int) % 8 := w64 (by omega) (by omega)
      have y4 : IntKind.i64.wrap (A + ((k : Int) / 8 + HY) * 88 + (k : Int) % 8 + HX) = (N : Int) := by rw [w64 (by omega) (by omega)]; exact hsum
      have zn : ¬ (38016 : Int) ≤ (N : Int) := by omega
      have zN : (N : Int) < (38016 : Int) := by omega
      have z0 : ¬ (N : Int) < 0 := by omega
      have zw1 : IntKind.i64.wrap (25344 : Int) = 25344 := by decide
      have zw2 : IntKind.i64.wrap (6336 : Int) = 6336 := by decide
      have zw3 : IntKind.i64.wrap (31680 : Int) = 31680 := by decide
      have zw4 : Int.tdiv (25344 : Int) 4 = 6336 := by decide
      have zM : ¬ (N : Int) < (25344 : Int) := by have := (hpl.2.1 (by trivial)).1; omega
      have zQ : ¬ (31680 : Int) ≤ (N : Int) := by have := (hpl.2.1 (by trivial)).2; omega
      have HST := Lib.hid hst
      clear hst hpl hfi hN hv i0 i1 hsum
      go_wp2
      have y0' : decide ((N : Int) < 0) = false := decide_eq_false (by omega)
      have yn' : decide ((38016 : Int) ≤ (N : Int)) = false := decide_eq_false (by omega)
      have yM' : decide ((N : Int) < (25344 : Int)) = false := decide_eq_false (by omega)
      have yQ' : decide ((31680 : Int) ≤ (N : Int)) = false := decide_eq_false (by omega)
      refine wp_region_mix (fun w' => w'.cell? ⟨g6, k, none⟩ = some (.int .u8 v) ∧ w'.cell? ⟨g3, N, none⟩ = some (.int .u8 v)) [] [(0, true), (1, true), (2, true), (3, true), (4, true), (5, true), (6, true), (7, true), (8, true), (9, true), (10, true), (11, true), (12, true), (13, true), (14, true), (15, true), (16, true), (17, true), (18, true), (19, true), (20, true), (21, true), (22, true), (23, true), (24, true), (25, true), (26, true), (27, true), (28, true), (29, true), (30, true), (31, true), (32, true), (33, true), (34, true), (35, true), (36, true), (37, true), (38, true), (39, true), (40, true), (41, true), (42, true), (43, true), (44, true), (45, true), (46, true), (47, true), (48, true), (49, true), (50, true), (51, true), (52, true), (53, true), (54, true), (55, true), (56, true), (57, true), (58, true), (59, true), (60, true), (61, true), (62, true), (63, true), (64, true), (65, true), (66, true), (67, true), (68, true)] (by kernel_rfl) (by kernel_rfl) rfl (by kernel_rfl) ⟨ck2, ck1⟩ ?_
      iterate 69 (first
        | (refine mix_qs rfl rfl ?_; simp only [Act.put, List.setIfInBounds_toArray, List.set_cons_succ, List.set_cons_zero])
        | (refine mix_q rfl rfl (fun w' hB => by obtain ⟨b0, b1⟩ := hB; go_simp; rfl) ?_; simp only [Act.put, List.setIfInBounds_toArray, List.set_cons_succ, List.set_cons_zero]))
      refine mix_nil ?_
      go_wp2
      go_roundw
      case rel => exact ⟨k + 1, by omega, by go_num, HST.out.drewN 1⟩
      case measure => simp [intOf]; omega
    · have e : k = 64 := by omega
      subst e
      have SE := Lib.hid hst
      clear hst
      go_wp2
      go_ret
      exact ⟨rfl, HB2.out.trans (SE.out.old.mono HB2.out.size)⟩
end Go.Proofs.Ytcieggaihelacaa
