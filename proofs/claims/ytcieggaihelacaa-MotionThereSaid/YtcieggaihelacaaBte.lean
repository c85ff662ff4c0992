/- The contract of the program's Fetch: refused or told, whatever the numbers. -/
import Derived.Test.YtcieggaihelacaaBtd
set_option linter.unusedSimpArgs false
set_option linter.unusedVariables false
namespace Go.Proofs.Ytcieggaihelacaa
open Go.RowKit
theorem fetL_len {f g a b x y : Int} {xs : List Int} (h : fetE f g a xs.length b x y = 0) : fetL f g a xs b x y = (List.range 64).map (fun k => xs[(fetI f g a b x y k).toNat]?.getD 0) := by unfold fetL; rw [if_pos h]
theorem fetL_none {f g a b x y : Int} {xs : List Int} (h : fetE f g a xs.length b x y ≠ 0) : fetL f g a xs b x y = [] := by unfold fetL; rw [if_neg h]
theorem fetch_any (f g a b x y : Int) (v : Value) (xs : List Int) (w : World) (h : Rd .u8 w v xs) (ha : -9223372036854775808 ≤ a) (ha2 : a ≤ 9223372036854775807) (hx0 : -9223372036854775808 ≤ x) (hx1 : x ≤ 9223372036854775807) (hy0 : -9223372036854775808 ≤ y) (hy1 : y ≤ 9223372036854775807) :
    Calls Try.prog 23 #[v, .agg #[.int .i64 f, .int .i64 g, .int .i64 a], .int .i64 b, .int .i64 x, .int .i64 y] w fun e w' => (∃ r, e = .returned (.tuple #[r, .int .i64 (fetE f g a xs.length b x y)]) ∧ w'.ownsRow w.heap.size 5 1 r (fetL f g a xs b x y).length ((fetL f g a xs b x y).map (Value.int .u8))) ∧ Below w.heap.size w w' := by
  by_cases hE : fetE f g a xs.length b x y = 0
  · obtain ⟨hc, h1, h2, h3⟩ : cornE f g a = 0 ∧ (xs.length : Int) = bytesS f ∧ (1 ≤ b ∧ b ≤ 6) ∧ fitsE f g a x y = 0 := by
      rcases fet_cases f g a xs b x y with ⟨hc, e, _⟩ | ⟨hc, h1, e, _⟩ | ⟨hc, h1, h2, e, _⟩ | ⟨hc, h1, h2, h3, e, _⟩ | ⟨hc, h1, h2, h3, e, _⟩
      · rw [e] at hE; exact absurd hE hc
      · rw [e] at hE; cases hE
      · rw [e] at hE; cases hE
      · rw [e] at hE; exact absurd hE h3
      · exact ⟨hc, h1, h2, h3⟩
    rw [fetL_len hE, hE]
    have hl : ((List.range 64).map (fun k => xs[(fetI f g a b x y k).toNat]?.getD 0)).length = 64 := by simp
    rw [hl]
    rcases (show b ≤ 4 ∨ b = 5 ∨ b = 6 by omega) with hb | hb | hb
    · exact fetch_l f g a b x y v xs w h ha ha2 hc h1 h2 h3 hb
    · exact fetch_c5 f g a b x y v xs w h ha ha2 hc h1 h2 h3 hb
    · exact fetch_c6 f g a b x y v xs w h ha ha2 hc h1 h2 h3 hb
  · rw [fetL_none hE]
    refine (fetch_bad f g a b x y v xs w h ha ha2 hx0 hx1 hy0 hy1 hE).mono fun e w' he => ?_
    exact ⟨⟨_, he.1, World.ownsRow_nil _ _ _ _⟩, he.2⟩
theorem half_r (x : Int) (w : World) (h0 : -9223372036854775808 ≤ x) (h1 : x ≤ 9223372036854775807) : Calls Try.prog 32 #[.int .i64 x] w fun e w' => e = .returned (.int .i64 (halfS x)) ∧ w = w' := by
  have hh := half_tdiv x
  have HH := Lib.hid hh
  unfold halfS
  clear hh
  go_enter Try.func32, Try.ntmps32
  go_wp2
  go_ret
  exact ⟨ret_int rfl, rfl⟩
end Go.Proofs.Ytcieggaihelacaa
/- The contract of the document's Fetch. -/
namespace Go.Proofs.Ytcieggaihelacaa
open Go.RowKit
theorem fetI_in {f g a b x y : Int} {n : Nat} (hc : cornE f g a = 0) (hl : (n : Int) = bytesS f) (hb : 1 ≤ b ∧ b ≤ 6) (hfit : fitsE f g a x y = 0) {k : Nat} (hk : k < 64) : 0 ≤ fetI f g a b x y k ∧ fetI f g a b x y k < n := by
  obtain ⟨hf, hg, ha3, hX, hY⟩ := corn_ok hc
  obtain ⟨x0, x1, y0, y1⟩ := corner_bd hf hg ha3
  have hft : (-15 ≤ x ∧ x ≤ 15 ∧ -15 ≤ y ∧ y ≤ 15) ∧ (0 ≤ cornerX f g a + x ∧ cornerX f g a + x + 16 ≤ wideS f ∧ 0 ≤ cornerY g a + y ∧ cornerY g a + y + 16 ≤ highS f) := by
    rcases fits_cases f g a x y with ⟨h1, _⟩ | ⟨_, _, h1⟩ | ⟨_, _, _, h1⟩ | ⟨_, h1, h2, _⟩
    · exact absurd hc h1
    · rw [hfit] at h1; cases h1
    · rw [hfit] at h1; cases h1
    · exact ⟨h1, h2⟩
  have kx := half_tdiv x
  have ky := half_tdiv y
  unfold fetI plcV plcS sxS
  generalize cornerX f g a = X at *
  generalize cornerY g a = Y at *
  generalize halfS x = hx at *
  generalize halfS y = hy at *
  clear hX hY hg ha3 hc hfit
  rcases hf with rfl | rfl
  · have e1 : wideS 0 = 176 := rfl
    have e2 : highS 0 = 144 := rfl
    have e3 : bytesS 0 = 38016 := rfl
    simp only [e1, e2] at hft x1 y1 ⊢
    rw [e3] at hl
    split at kx <;> split at ky <;> by_cases hb4 : b ≤ 4
    all_goals
      first
        | (rw [if_pos hb4, if_pos hb4, if_neg (by omega), if_neg (by omega)]; omega)
        | (rw [if_neg hb4, if_neg hb4, if_pos (by omega), if_pos (by omega)]; omega)
  · have e1 : wideS 1 = 352 := rfl
    have e2 : highS 1 = 288 := rfl
    have e3 : bytesS 1 = 152064 := rfl
    simp only [e1, e2] at hft x1 y1 ⊢
    rw [e3] at hl
    split at kx <;> split at ky <;> by_cases hb4 : b ≤ 4
    all_goals
      first
        | (rw [if_pos hb4, if_pos hb4, if_neg (by omega), if_neg (by omega)]; omega)
        | (rw [if_neg hb4, if_neg hb4, if_pos (by omega), if_pos (by omega)]; omega)
end Go.Proofs.Ytcieggaihelacaa
/- The document's Fetch: what it refuses. -/
namespace Go.Proofs.Ytcieggaihelacaa
open Go.RowKit
set_option maxRecDepth 100000 in
set_option maxHeartbeats 4000000 in
theorem rfetch_bad (f g a b x y : Int) (v : Value) (xs : List Int) (w : World) (h : Rd .u8 w v xs) (ha : -9223372036854775808 ≤ a) (ha2 : a ≤ 9223372036854775807)
    (hne : fetE f g a xs.length b x y ≠ 0) :
    Calls Try.prog 24 #[v, .agg #[.int .i64 f, .int .i64 g, .int .i64 a], .int .i64 b, .int .i64 x, .int .i64 y] w fun e w' => e = .returned (.tuple #[.slice none 0 0, .int .i64 (fetE f g a xs.length b x y)]) ∧ Below w.heap.size w w' := by
  have hlen := h.len
  obtain ⟨ad, cap, rfl⟩ := h.form
  clear h
  have hB := (Below.refl w.heap.size w).alloc (Nat.le_refl _) (Obj.cells #[.int .i64 f, .int .i64 g, .int .i64 a] 23)
  have hL := (Lies.nil w).alloc (Obj.cells #[.int .i64 f, .int .i64 g, .int .i64 a] 23)
  have k0 := hL.head
  have c0 := blk_cell k0 0
  have c1 := blk_cell k0 1
  have c2 := blk_cell k0 2
  simp only [List.getElem?_toArray, List.getElem?_cons_zero, List.getElem?_cons_succ] at c0 c1 c2
  clear k0
  obtain ⟨n, hn⟩ : ∃ n, xs.length = n := ⟨_, rfl⟩
  rcases fet_cases f g a xs b x y with ⟨hc, e, _⟩ | ⟨hc, h1, e, _⟩ | ⟨hc, h1, h2, e, _⟩ | ⟨hc, h1, h2, h3, e, _⟩ | ⟨hc, h1, h2, h3, e, _⟩
  · rw [e]; clear e hne
    have ht : (cornE f g a != 0) = true := by simpa using hc
    clear hc
    go_enter Try.func24, Try.ntmps24
    go_wp2_with ((go_at_call 47; refine (rCorner_any _ _ _ _ ha ha2).mono ?_; skip; rintro e w1 ⟨rfl, hb'⟩; clear c0 c1 c2; replace hL := hL.next hb'; replace hB := below_nxt hB hb'; clear hb'; have k0 := hL.head; have c0 := blk_cell k0 0; have c1 := blk_cell k0 1; have c2 := blk_cell k0 2; simp only [List.getElem?_toArray, List.getElem?_cons_zero, List.getElem?_cons_succ] at c0 c1 c2; clear k0))
    exact bodyPost_ret (by simp [results, Try.results24, go_sem]) rfl ⟨rfl, hB⟩
  · rw [e]; clear e hne
    have ht : ((n : Int) != bytesS f) = true := by rw [← hn]; simpa using h1
    clear h1
    go_enter Try.func24, Try.ntmps24
    go_wp2_with (first
      | (go_at_call 47; refine (rCorner_any _ _ _ _ ha ha2).mono ?_; rw [hc]; rintro e w1 ⟨rfl, hb'⟩; clear c0 c1 c2; replace hL := hL.next hb'; replace hB := below_nxt hB hb'; clear hb'; have k0 := hL.head; have c0 := blk_cell k0 0; have c1 := blk_cell k0 1; have c2 := blk_cell k0 2; simp only [List.getElem?_toArray, List.getElem?_cons_zero, List.getElem?_cons_succ] at c0 c1 c2; clear k0)
      | (go_at_call 38; refine (rsize_any _ _).mono ?_; skip; rintro e w' ⟨rfl, rfl⟩)
      | (go_at_call 49; refine (rPlace_any _ _ _ _ _ ha ha2).mono ?_; skip; rintro e w2 ⟨rfl, hb'⟩; clear c0 c1 c2; replace hL := hL.next hb'; replace hB := below_nxt hB hb'; clear hb'; have k0 := hL.head; have c0 := blk_cell k0 0; have c1 := blk_cell k0 1; have c2 := blk_cell k0 2; simp only [List.getElem?_toArray, List.getElem?_cons_zero, List.getElem?_cons_succ] at c0 c1 c2; clear k0)
      | (go_at_call 27; refine (rfits_any _ _ _ _ _ _ ha ha2).mono ?_; skip; rintro e w3 ⟨rfl, hb'⟩; clear c0 c1 c2; replace hL := hL.next hb'; replace hB := below_nxt hB hb'; clear hb'; have k0 := hL.head; have c0 := blk_cell k0 0; have c1 := blk_cell k0 1; have c2 := blk_cell k0 2; simp only [List.getElem?_toArray, List.getElem?_cons_zero, List.getElem?_cons_succ] at c0 c1 c2; clear k0))
    exact bodyPost_ret (by simp [results, Try.results24, go_sem]) rfl ⟨rfl, hB⟩
  · rw [e]; clear e hne
    have ht : ((n : Int) != bytesS f) = false := by rw [← hn]; simpa using h1
    have hp : plE f g a b = 3 := by unfold plE; rw [if_pos hc, if_neg h2]
    clear h1 h2
    go_enter Try.func24, Try.ntmps24
    go_wp2_with (first
      | (go_at_call 47; refine (rCorner_any _ _ _ _ ha ha2).mono ?_; rw [hc]; rintro e w1 ⟨rfl, hb'⟩; clear c0 c1 c2; replace hL := hL.next hb'; replace hB := below_nxt hB hb'; clear hb'; have k0 := hL.head; have c0 := blk_cell k0 0; have c1 := blk_cell k0 1; have c2 := blk_cell k0 2; simp only [List.getElem?_toArray, List.getElem?_cons_zero, List.getElem?_cons_succ] at c0 c1 c2; clear k0)
      | (go_at_call 38; refine (rsize_any _ _).mono ?_; skip; rintro e w' ⟨rfl, rfl⟩)
      | (go_at_call 49; refine (rPlace_any _ _ _ _ _ ha ha2).mono ?_; rw [hp]; rintro e w2 ⟨rfl, hb'⟩; clear c0 c1 c2; replace hL := hL.next hb'; replace hB := below_nxt hB hb'; clear hb'; have k0 := hL.head; have c0 := blk_cell k0 0; have c1 := blk_cell k0 1; have c2 := blk_cell k0 2; simp only [List.getElem?_toArray, List.getElem?_cons_zero, List.getElem?_cons_succ] at c0 c1 c2; clear k0)
      | (go_at_call 27; refine (rfits_any _ _ _ _ _ _ ha ha2).mono ?_; skip; rintro e w3 ⟨rfl, hb'⟩; clear c0 c1 c2; replace hL := hL.next hb'; replace hB := below_nxt hB hb'; clear hb'; have k0 := hL.head; have c0 := blk_cell k0 0; have c1 := blk_cell k0 1; have c2 := blk_cell k0 2; simp only [List.getElem?_toArray, List.getElem?_cons_zero, List.getElem?_cons_succ] at c0 c1 c2; clear k0))
    exact bodyPost_ret (by simp [results, Try.results24, go_sem]) rfl ⟨rfl, hB⟩
  · rw [e]; clear e hne
    have ht : ((n : Int) != bytesS f) = false := by rw [← hn]; simpa using h1
    have hp : plE f g a b = 0 := by unfold plE; rw [if_pos hc, if_pos h2]
    have ht2 : (fitsE f g a x y != 0) = true := by simpa using h3
    clear h1 h2 h3
    go_enter Try.func24, Try.ntmps24
    go_wp2_with (first
      | (go_at_call 47; refine (rCorner_any _ _ _ _ ha ha2).mono ?_; rw [hc]; rintro e w1 ⟨rfl, hb'⟩; clear c0 c1 c2; replace hL := hL.next hb'; replace hB := below_nxt hB hb'; clear hb'; have k0 := hL.head; have c0 := blk_cell k0 0; have c1 := blk_cell k0 1; have c2 := blk_cell k0 2; simp only [List.getElem?_toArray, List.getElem?_cons_zero, List.getElem?_cons_succ] at c0 c1 c2; clear k0)
      | (go_at_call 38; refine (rsize_any _ _).mono ?_; skip; rintro e w' ⟨rfl, rfl⟩)
      | (go_at_call 49; refine (rPlace_any _ _ _ _ _ ha ha2).mono ?_; rw [hp]; rintro e w2 ⟨rfl, hb'⟩; clear c0 c1 c2; replace hL := hL.next hb'; replace hB := below_nxt hB hb'; clear hb'; have k0 := hL.head; have c0 := blk_cell k0 0; have c1 := blk_cell k0 1; have c2 := blk_cell k0 2; simp only [List.getElem?_toArray, List.getElem?_cons_zero, List.getElem?_cons_succ] at c0 c1 c2; clear k0)
      | (go_at_call 27; refine (rfits_any _ _ _ _ _ _ ha ha2).mono ?_; skip; rintro e w3 ⟨rfl, hb'⟩; clear c0 c1 c2; replace hL := hL.next hb'; replace hB := below_nxt hB hb'; clear hb'; have k0 := hL.head; have c0 := blk_cell k0 0; have c1 := blk_cell k0 1; have c2 := blk_cell k0 2; simp only [List.getElem?_toArray, List.getElem?_cons_zero, List.getElem?_cons_succ] at c0 c1 c2; clear k0))
    exact bodyPost_ret (by simp [results, Try.results24, go_sem]) rfl ⟨rfl, hB⟩
  · exact absurd e hne
end Go.Proofs.Ytcieggaihelacaa
/- The document's Fetch where nothing is refused. -/
namespace Go.Proofs.Ytcieggaihelacaa
open Go.RowKit
theorem pl_bounds {f g a b : Int} (hc : cornE f g a = 0) (hb : 1 ≤ b ∧ b ≤ 6) : 0 ≤ plcV f (cornerX f g a) (cornerY g a) b ∧ plcV f (cornerX f g a) (cornerY g a) b ≤ 1000000 ∧ 0 ≤ plcS f b ∧ plcS f b ≤ 352 := by
  obtain ⟨hf, hg, ha3, hX, hY⟩ := corn_ok hc
  obtain ⟨x0, x1, y0, y1⟩ := corner_bd hf hg ha3
  unfold plcV plcS
  generalize cornerX f g a = X at *
  generalize cornerY g a = Y at *
  clear hX hY hg ha3 hc
  rcases hf with rfl | rfl
  · have e1 : wideS 0 = 176 := rfl
    have e2 : highS 0 = 144 := rfl
    simp only [e1, e2] at x1 y1 ⊢
    by_cases hb4 : b ≤ 4
    · rw [if_pos hb4, if_pos hb4]; omega
    · rw [if_neg hb4, if_neg hb4]; omega
  · have e1 : wideS 1 = 352 := rfl
    have e2 : highS 1 = 288 := rfl
    simp only [e1, e2] at x1 y1 ⊢
    by_cases hb4 : b ≤ 4
    · rw [if_pos hb4, if_pos hb4]; omega
    · rw [if_neg hb4, if_neg hb4]; omega

set_option maxRecDepth 100000 in
set_option maxHeartbeats 4000000 in
theorem rfetch_l (f g a b x y : Int) (v : Value) (xs : List Int) (w : World) (h : Rd .u8 w v xs) (ha : -9223372036854775808 ≤ a) (ha2 : a ≤ 9223372036854775807)
    (hc : cornE f g a = 0) (hlen : (xs.length : Int) = bytesS f) (hb1 : 1 ≤ b ∧ b ≤ 6) (hfit : fitsE f g a x y = 0) (hxb : -15 ≤ x ∧ x ≤ 15 ∧ -15 ≤ y ∧ y ≤ 15) (hbb : b ≤ 4) :
    Calls Try.prog 24 #[v, .agg #[.int .i64 f, .int .i64 g, .int .i64 a], .int .i64 b, .int .i64 x, .int .i64 y] w fun e w' => (∃ r, e = .returned (.tuple #[r, .int .i64 0]) ∧ w'.ownsRow w.heap.size 5 1 r 64 (((List.range 64).map (fun k => xs[(fetI f g a b x y k).toNat]?.getD 0)).map (Value.int .u8))) ∧ Below w.heap.size w w' := by
  have hin : ∀ k : Nat, k < 64 → 0 ≤ fetI f g a b x y k ∧ fetI f g a b x y k < (xs.length : Int) := fun k hk => fetI_in hc hlen hb1 hfit hk
  have HIN := Lib.hid hin
  have hrl := h.len
  have HR := Lib.hid h
  have hp : plE f g a b = 0 := by unfold plE; rw [if_pos hc, if_pos hb1]
  have hplA : plA f g a b = plcV f (cornerX f g a) (cornerY g a) b := by unfold plA; rw [if_pos hp]
  have hplS : plS f g a b = plcS f b := by unfold plS; rw [if_pos hp]
  have hfi : ∀ k : Nat, fetI f g a b x y k = plcV f (cornerX f g a) (cornerY g a) b + ((k : Int) / 8 + sxS b y) * plcS f b + (k : Int) % 8 + sxS b x := fun k => rfl
  have hsx : sxS b x = x ∧ sxS b y = y := by unfold sxS; constructor <;> first | rw [if_pos (by omega)] | rw [if_neg (by omega)]
  have hpb : 0 ≤ plcV f (cornerX f g a) (cornerY g a) b ∧ plcV f (cornerX f g a) (cornerY g a) b ≤ 1000000 ∧ 0 ≤ plcS f b ∧ plcS f b ≤ 352 ∧ -15 ≤ sxS b x ∧ sxS b x ≤ 15 ∧ -15 ≤ sxS b y ∧ sxS b y ≤ 15 := by
    have k := pl_bounds hc hb1
    have kx := half_tdiv x
    have ky := half_tdiv y
    refine ⟨k.1, k.2.1, k.2.2.1, k.2.2.2, ?_⟩
    rw [hsx.1, hsx.2]
    clear hfi hsx hin HIN
    split at kx <;> split at ky <;> omega
  obtain ⟨PV, ePV⟩ : ∃ PV, plcV f (cornerX f g a) (cornerY g a) b = PV := ⟨_, rfl⟩
  obtain ⟨PS, ePS⟩ : ∃ PS, plcS f b = PS := ⟨_, rfl⟩
  obtain ⟨xx, exx⟩ : ∃ xx, sxS b x = xx := ⟨_, rfl⟩
  obtain ⟨yy, eyy⟩ : ∃ yy, sxS b y = yy := ⟨_, rfl⟩
  rw [ePV, ePS, exx, eyy] at hpb
  rw [ePV] at hplA
  rw [ePS] at hplS
  rw [exx, eyy] at hsx
  simp only [ePV, ePS, exx, eyy] at hfi
  have HFI := Lib.hid hfi
  have HP := Lib.hid (And.intro hplA (And.intro hplS hp))
  have HX := Lib.hid hsx
  have HF := Lib.hid hfit
  obtain ⟨vb, voff, cap, rfl, hvb, hvc, hvh⟩ := h.solid (by have := (hin 0 (by decide)).1; have := (hin 0 (by decide)).2; omega)
  have hB := (Below.refl w.heap.size w).alloc (Nat.le_refl _) (Obj.cells #[.int .i64 f, .int .i64 g, .int .i64 a] 23)
  have hL := (Lies.nil w).alloc (Obj.cells #[.int .i64 f, .int .i64 g, .int .i64 a] 23)
  have k0 := hL.head
  have c0 := blk_cell k0 0
  have c1 := blk_cell k0 1
  have c2 := blk_cell k0 2
  simp only [List.getElem?_toArray, List.getElem?_cons_zero, List.getElem?_cons_succ] at c0 c1 c2
  clear k0
  obtain ⟨L, hLL⟩ : ∃ L : List Int, (List.range 64).map (fun k => xs[(fetI f g a b x y k).toNat]?.getD 0) = L := ⟨_, rfl⟩
  have hLl : L.length = 64 := by rw [← hLL]; simp
  rw [hLL]
  have HLL := Lib.hid hLL
  obtain ⟨n, hn⟩ : ∃ n, xs.length = n := ⟨_, rfl⟩
  have ht : ((n : Int) != bytesS f) = false := by rw [← hn]; simpa using hlen
  have HN := Lib.hid hn
  rw [hn] at hrl hvc ⊢
  clear hLL hn hvh hin h hp hplA hplS hfi hsx hfit hlen ePV ePS exx eyy
  go_enter Try.func24, Try.ntmps24
  go_wp2_with (first
      | (go_at_call 47; refine (rCorner_any _ _ _ _ ha ha2).mono ?_; rw [hc]; rintro e w1 ⟨rfl, hb'⟩; clear c0 c1 c2; replace hL := hL.next hb'; replace hB := below_nxt hB hb'; clear hb'; have k0 := hL.head; have c0 := blk_cell k0 0; have c1 := blk_cell k0 1; have c2 := blk_cell k0 2; simp only [List.getElem?_toArray, List.getElem?_cons_zero, List.getElem?_cons_succ] at c0 c1 c2; clear k0)
      | (go_at_call 38; refine (rsize_any _ _).mono ?_; skip; rintro e w' ⟨rfl, rfl⟩)
      | (go_at_call 49; refine (rPlace_any _ _ _ _ _ ha ha2).mono ?_; rw [HP.out.1, HP.out.2.1, HP.out.2.2]; rintro e w2 ⟨rfl, hb'⟩; clear c0 c1 c2; replace hL := hL.next hb'; replace hB := below_nxt hB hb'; clear hb'; have k0 := hL.head; have c0 := blk_cell k0 0; have c1 := blk_cell k0 1; have c2 := blk_cell k0 2; simp only [List.getElem?_toArray, List.getElem?_cons_zero, List.getElem?_cons_succ] at c0 c1 c2; clear k0)
      | (go_at_call 27; refine (rfits_any _ _ _ _ _ _ ha ha2).mono ?_; rw [HF.out]; rintro e w3 ⟨rfl, hb'⟩; clear c0 c1 c2; replace hL := hL.next hb'; replace hB := below_nxt hB hb'; clear hb'; have k0 := hL.head; have c0 := blk_cell k0 0; have c1 := blk_cell k0 1; have c2 := blk_cell k0 2; simp only [List.getElem?_toArray, List.getElem?_cons_zero, List.getElem?_cons_succ] at c0 c1 c2; clear k0)
      | (go_at_call 32; refine (half_r _ _ (by omega) (by omega)).mono ?_; (first | rw [← HX.out.1] | rw [← HX.out.2]); rintro e w' ⟨rfl, rfl⟩))
  clear c0 c1 c2 hL
  have HB := Lib.hid hB
  clear hB
  go_loopw [23, 24] (fun v i wr => ∃ m : Nat, m ≤ 8 ∧ i = .int .i64 m ∧ wr.ownsRow w.heap.size 5 1 v (8 * m) ((L.take (8 * m)).map (Value.int .u8)) ∧ Below w.heap.size w wr) (fun _ i _ => 10 - (intOf i).toNat)
  case atStart => exact ⟨0, by omega, rfl, World.ownsRow_nil _ _ _ _, HB.out⟩
  case round =>
    obtain ⟨m, hm, rfl, hown, hbel⟩ := hrel
    by_cases hlt : m < 8
    · have hml : (m : Int) < 8 := by omega
      go_wp2
      go_loopw [23, 25] (fun v i wr => ∃ u : Nat, u ≤ 8 ∧ i = .int .i64 u ∧ wr.ownsRow w.heap.size 5 1 v (8 * m + u) ((L.take (8 * m + u)).map (Value.int .u8)) ∧ Below w.heap.size w wr) (fun _ i _ => 10 - (intOf i).toNat)
      case atStart => exact ⟨0, by omega, rfl, hown, hbel⟩
      case round =>
        obtain ⟨u, hu, rfl, hown2, hbel2⟩ := hrel
        by_cases hlt2 : u < 8
        · have hul : (u : Int) < 8 := by omega
          have hk64 : 8 * m + u < 64 := by omega
          obtain ⟨i1, i2⟩ := HIN.out (8 * m + u) hk64
          have hfe := HFI.out (8 * m + u)
          rw [HX.out.1, HX.out.2, show (((8 * m + u : Nat) : Int) / 8) = m by omega, show (((8 * m + u : Nat) : Int) % 8) = u by omega] at hfe
          obtain ⟨kk, hkk⟩ : ∃ kk : Nat, fetI f g a b x y (8 * m + u) = kk := ⟨(fetI f g a b x y (8 * m + u)).toNat, by omega⟩
          rw [hkk] at hfe i1 i2
          rw [HN.out] at i2
          obtain ⟨b', o', cap', hv, _, _, hh⟩ := (HR.out.below hbel2).solid (by rw [HN.out]; omega)
          have hc1 := hh kk (by rw [HN.out]; omega)
          simp only [Value.slice.injEq, Option.some.injEq, Addr.mk.injEq] at hv
          obtain ⟨⟨rfl, rfl, _⟩, _, rfl⟩ := hv
          obtain ⟨el, hel⟩ : ∃ el, xs[kk]?.getD 0 = el := ⟨_, rfl⟩
          rw [hel] at hc1
          have hle : L[8 * m + u]? = some el := by
            rw [← HLL.out, List.getElem?_map, List.getElem?_range hk64, Option.map_some, hkk, Int.toNat_natCast, hel]
          have HLE := Lib.hid hle
          have HBE := Lib.hid hbel2
          have hsz := hbel2.size
          have hfe' := hfe.symm
          clear hh hel hle hkk hfe i1 hbel2 hown hbel
          go_wp2_with (at_builtin; refine wp_app1 Try.elByte rfl rfl (hown2.alloc _) (cell_alloc1 _ _ _) rfl (by omega) (by simp; omega) ?_; intro g1 c1 w1 hown3 hgrow3 _)
          go_roundw
          case rel =>
            refine ⟨u + 1, by omega, by go_num, ?_, ?_⟩
            · rw [← Nat.add_assoc, List.take_add_one, List.map_append, HLE.out]
              exact hown3
            · exact (HBE.out.alloc HBE.out.size _).grown hgrow3 (by simp; omega) (fun j e => (hown2.lt j e).1)
          case measure => simp [intOf]; omega
        · have e : u = 8 := by omega
          subst e
          go_wp2
          go_roundw
          case rel => exact ⟨m + 1, by omega, by go_num, hown2, hbel2⟩
          case measure => simp [intOf]; omega
    · have e : m = 8 := by omega
      subst e
      go_wp2
      have hLt : (L.take (8 * 8)) = L := List.take_of_length_le (by omega)
      rw [hLt] at hown
      exact bodyPost_ret (by simp [results, Try.results24, go_sem]) rfl ⟨⟨_, rfl, hown⟩, hbel⟩

set_option maxRecDepth 100000 in
set_option maxHeartbeats 4000000 in
theorem rfetch_c (f g a b x y : Int) (v : Value) (xs : List Int) (w : World) (h : Rd .u8 w v xs) (ha : -9223372036854775808 ≤ a) (ha2 : a ≤ 9223372036854775807)
    (hc : cornE f g a = 0) (hlen : (xs.length : Int) = bytesS f) (hb1 : 1 ≤ b ∧ b ≤ 6) (hfit : fitsE f g a x y = 0) (hxb : -15 ≤ x ∧ x ≤ 15 ∧ -15 ≤ y ∧ y ≤ 15) (hbb : 4 < b) :
    Calls Try.prog 24 #[v, .agg #[.int .i64 f, .int .i64 g, .int .i64 a], .int .i64 b, .int .i64 x, .int .i64 y] w fun e w' => (∃ r, e = .returned (.tuple #[r, .int .i64 0]) ∧ w'.ownsRow w.heap.size 5 1 r 64 (((List.range 64).map (fun k => xs[(fetI f g a b x y k).toNat]?.getD 0)).map (Value.int .u8))) ∧ Below w.heap.size w w' := by
  have hin : ∀ k : Nat, k < 64 → 0 ≤ fetI f g a b x y k ∧ fetI f g a b x y k < (xs.length : Int) := fun k hk => fetI_in hc hlen hb1 hfit hk
  have HIN := Lib.hid hin
  have hrl := h.len
  have HR := Lib.hid h
  have hp : plE f g a b = 0 := by unfold plE; rw [if_pos hc, if_pos hb1]
  have hplA : plA f g a b = plcV f (cornerX f g a) (cornerY g a) b := by unfold plA; rw [if_pos hp]
  have hplS : plS f g a b = plcS f b := by unfold plS; rw [if_pos hp]
  have hfi : ∀ k : Nat, fetI f g a b x y k = plcV f (cornerX f g a) (cornerY g a) b + ((k : Int) / 8 + sxS b y) * plcS f b + (k : Int) % 8 + sxS b x := fun k => rfl
  have hsx : sxS b x = halfS x ∧ sxS b y = halfS y := by unfold sxS; constructor <;> first | rw [if_pos (by omega)] | rw [if_neg (by omega)]
  have hpb : 0 ≤ plcV f (cornerX f g a) (cornerY g a) b ∧ plcV f (cornerX f g a) (cornerY g a) b ≤ 1000000 ∧ 0 ≤ plcS f b ∧ plcS f b ≤ 352 ∧ -15 ≤ sxS b x ∧ sxS b x ≤ 15 ∧ -15 ≤ sxS b y ∧ sxS b y ≤ 15 := by
    have k := pl_bounds hc hb1
    have kx := half_tdiv x
    have ky := half_tdiv y
    refine ⟨k.1, k.2.1, k.2.2.1, k.2.2.2, ?_⟩
    rw [hsx.1, hsx.2]
    clear hfi hsx hin HIN
    split at kx <;> split at ky <;> omega
  obtain ⟨PV, ePV⟩ : ∃ PV, plcV f (cornerX f g a) (cornerY g a) b = PV := ⟨_, rfl⟩
  obtain ⟨PS, ePS⟩ : ∃ PS, plcS f b = PS := ⟨_, rfl⟩
  obtain ⟨xx, exx⟩ : ∃ xx, sxS b x = xx := ⟨_, rfl⟩
  obtain ⟨yy, eyy⟩ : ∃ yy, sxS b y = yy := ⟨_, rfl⟩
  rw [ePV, ePS, exx, eyy] at hpb
  rw [ePV] at hplA
  rw [ePS] at hplS
  rw [exx, eyy] at hsx
  simp only [ePV, ePS, exx, eyy] at hfi
  have HFI := Lib.hid hfi
  have HP := Lib.hid (And.intro hplA (And.intro hplS hp))
  have HX := Lib.hid hsx
  have HF := Lib.hid hfit
  obtain ⟨vb, voff, cap, rfl, hvb, hvc, hvh⟩ := h.solid (by have := (hin 0 (by decide)).1; have := (hin 0 (by decide)).2; omega)
  have hB := (Below.refl w.heap.size w).alloc (Nat.le_refl _) (Obj.cells #[.int .i64 f, .int .i64 g, .int .i64 a] 23)
  have hL := (Lies.nil w).alloc (Obj.cells #[.int .i64 f, .int .i64 g, .int .i64 a] 23)
  have k0 := hL.head
  have c0 := blk_cell k0 0
  have c1 := blk_cell k0 1
  have c2 := blk_cell k0 2
  simp only [List.getElem?_toArray, List.getElem?_cons_zero, List.getElem?_cons_succ] at c0 c1 c2
  clear k0
  obtain ⟨L, hLL⟩ : ∃ L : List Int, (List.range 64).map (fun k => xs[(fetI f g a b x y k).toNat]?.getD 0) = L := ⟨_, rfl⟩
  have hLl : L.length = 64 := by rw [← hLL]; simp
  rw [hLL]
  have HLL := Lib.hid hLL
  obtain ⟨n, hn⟩ : ∃ n, xs.length = n := ⟨_, rfl⟩
  have ht : ((n : Int) != bytesS f) = false := by rw [← hn]; simpa using hlen
  have HN := Lib.hid hn
  rw [hn] at hrl hvc ⊢
  clear hLL hn hvh hin h hp hplA hplS hfi hsx hfit hlen ePV ePS exx eyy
  go_enter Try.func24, Try.ntmps24
  go_wp2_with (first
      | (go_at_call 47; refine (rCorner_any _ _ _ _ ha ha2).mono ?_; rw [hc]; rintro e w1 ⟨rfl, hb'⟩; clear c0 c1 c2; replace hL := hL.next hb'; replace hB := below_nxt hB hb'; clear hb'; have k0 := hL.head; have c0 := blk_cell k0 0; have c1 := blk_cell k0 1; have c2 := blk_cell k0 2; simp only [List.getElem?_toArray, List.getElem?_cons_zero, List.getElem?_cons_succ] at c0 c1 c2; clear k0)
      | (go_at_call 38; refine (rsize_any _ _).mono ?_; skip; rintro e w' ⟨rfl, rfl⟩)
      | (go_at_call 49; refine (rPlace_any _ _ _ _ _ ha ha2).mono ?_; rw [HP.out.1, HP.out.2.1, HP.out.2.2]; rintro e w2 ⟨rfl, hb'⟩; clear c0 c1 c2; replace hL := hL.next hb'; replace hB := below_nxt hB hb'; clear hb'; have k0 := hL.head; have c0 := blk_cell k0 0; have c1 := blk_cell k0 1; have c2 := blk_cell k0 2; simp only [List.getElem?_toArray, List.getElem?_cons_zero, List.getElem?_cons_succ] at c0 c1 c2; clear k0)
      | (go_at_call 27; refine (rfits_any _ _ _ _ _ _ ha ha2).mono ?_; rw [HF.out]; rintro e w3 ⟨rfl, hb'⟩; clear c0 c1 c2; replace hL := hL.next hb'; replace hB := below_nxt hB hb'; clear hb'; have k0 := hL.head; have c0 := blk_cell k0 0; have c1 := blk_cell k0 1; have c2 := blk_cell k0 2; simp only [List.getElem?_toArray, List.getElem?_cons_zero, List.getElem?_cons_succ] at c0 c1 c2; clear k0)
      | (go_at_call 32; refine (half_r _ _ (by omega) (by omega)).mono ?_; (first | rw [← HX.out.1] | rw [← HX.out.2]); rintro e w' ⟨rfl, rfl⟩))
  clear c0 c1 c2 hL
  have HB := Lib.hid hB
  clear hB
  go_loopw [23, 24] (fun v i wr => ∃ m : Nat, m ≤ 8 ∧ i = .int .i64 m ∧ wr.ownsRow w.heap.size 5 1 v (8 * m) ((L.take (8 * m)).map (Value.int .u8)) ∧ Below w.heap.size w wr) (fun _ i _ => 10 - (intOf i).toNat)
  case atStart => exact ⟨0, by omega, rfl, World.ownsRow_nil _ _ _ _, HB.out⟩
  case round =>
    obtain ⟨m, hm, rfl, hown, hbel⟩ := hrel
    by_cases hlt : m < 8
    · have hml : (m : Int) < 8 := by omega
      go_wp2
      go_loopw [23, 25] (fun v i wr => ∃ u : Nat, u ≤ 8 ∧ i = .int .i64 u ∧ wr.ownsRow w.heap.size 5 1 v (8 * m + u) ((L.take (8 * m + u)).map (Value.int .u8)) ∧ Below w.heap.size w wr) (fun _ i _ => 10 - (intOf i).toNat)
      case atStart => exact ⟨0, by omega, rfl, hown, hbel⟩
      case round =>
        obtain ⟨u, hu, rfl, hown2, hbel2⟩ := hrel
        by_cases hlt2 : u < 8
        · have hul : (u : Int) < 8 := by omega
          have hk64 : 8 * m + u < 64 := by omega
          obtain ⟨i1, i2⟩ := HIN.out (8 * m + u) hk64
          have hfe := HFI.out (8 * m + u)
          rw [show (((8 * m + u : Nat) : Int) / 8) = m by omega, show (((8 * m + u : Nat) : Int) % 8) = u by omega] at hfe
          obtain ⟨kk, hkk⟩ : ∃ kk : Nat, fetI f g a b x y (8 * m + u) = kk := ⟨(fetI f g a b x y (8 * m + u)).toNat, by omega⟩
          rw [hkk] at hfe i1 i2
          rw [HN.out] at i2
          obtain ⟨b', o', cap', hv, _, _, hh⟩ := (HR.out.below hbel2).solid (by rw [HN.out]; omega)
          have hc1 := hh kk (by rw [HN.out]; omega)
          simp only [Value.slice.injEq, Option.some.injEq, Addr.mk.injEq] at hv
          obtain ⟨⟨rfl, rfl, _⟩, _, rfl⟩ := hv
          obtain ⟨el, hel⟩ : ∃ el, xs[kk]?.getD 0 = el := ⟨_, rfl⟩
          rw [hel] at hc1
          have hle : L[8 * m + u]? = some el := by
            rw [← HLL.out, List.getElem?_map, List.getElem?_range hk64, Option.map_some, hkk, Int.toNat_natCast, hel]
          have HLE := Lib.hid hle
          have HBE := Lib.hid hbel2
          have hsz := hbel2.size
          have hfe' := hfe.symm
          clear hh hel hle hkk hfe i1 hbel2 hown hbel
          go_wp2_with (at_builtin; refine wp_app1 Try.elByte rfl rfl (hown2.alloc _) (cell_alloc1 _ _ _) rfl (by omega) (by simp; omega) ?_; intro g1 c1 w1 hown3 hgrow3 _)
          go_roundw
          case rel =>
            refine ⟨u + 1, by omega, by go_num, ?_, ?_⟩
            · rw [← Nat.add_assoc, List.take_add_one, List.map_append, HLE.out]
              exact hown3
            · exact (HBE.out.alloc HBE.out.size _).grown hgrow3 (by simp; omega) (fun j e => (hown2.lt j e).1)
          case measure => simp [intOf]; omega
        · have e : u = 8 := by omega
          subst e
          go_wp2
          go_roundw
          case rel => exact ⟨m + 1, by omega, by go_num, hown2, hbel2⟩
          case measure => simp [intOf]; omega
    · have e : m = 8 := by omega
      subst e
      go_wp2
      have hLt : (L.take (8 * 8)) = L := List.take_of_length_le (by omega)
      rw [hLt] at hown
      exact bodyPost_ret (by simp [results, Try.results24, go_sem]) rfl ⟨⟨_, rfl, hown⟩, hbel⟩
end Go.Proofs.Ytcieggaihelacaa
/- The contract of the document's Fetch: refused or told, as the program's. -/
namespace Go.Proofs.Ytcieggaihelacaa
open Go.RowKit
theorem rfetch_any (f g a b x y : Int) (v : Value) (xs : List Int) (w : World) (h : Rd .u8 w v xs) (ha : -9223372036854775808 ≤ a) (ha2 : a ≤ 9223372036854775807) :
    Calls Try.prog 24 #[v, .agg #[.int .i64 f, .int .i64 g, .int .i64 a], .int .i64 b, .int .i64 x, .int .i64 y] w fun e w' => (∃ r, e = .returned (.tuple #[r, .int .i64 (fetE f g a xs.length b x y)]) ∧ w'.ownsRow w.heap.size 5 1 r (fetL f g a xs b x y).length ((fetL f g a xs b x y).map (Value.int .u8))) ∧ Below w.heap.size w w' := by
  by_cases hE : fetE f g a xs.length b x y = 0
  · obtain ⟨hc, h1, h2, h3⟩ : cornE f g a = 0 ∧ (xs.length : Int) = bytesS f ∧ (1 ≤ b ∧ b ≤ 6) ∧ fitsE f g a x y = 0 := by
      rcases fet_cases f g a xs b x y with ⟨hc, e, _⟩ | ⟨hc, h1, e, _⟩ | ⟨hc, h1, h2, e, _⟩ | ⟨hc, h1, h2, h3, e, _⟩ | ⟨hc, h1, h2, h3, e, _⟩
      · rw [e] at hE; exact absurd hE hc
      · rw [e] at hE; cases hE
      · rw [e] at hE; cases hE
      · rw [e] at hE; exact absurd hE h3
      · exact ⟨hc, h1, h2, h3⟩
    have hx : -15 ≤ x ∧ x ≤ 15 ∧ -15 ≤ y ∧ y ≤ 15 := by
      rcases fits_cases f g a x y with ⟨k1, _⟩ | ⟨_, _, k1⟩ | ⟨_, _, _, k1⟩ | ⟨_, k1, k2, _⟩
      · exact absurd hc k1
      · rw [h3] at k1; cases k1
      · rw [h3] at k1; cases k1
      · exact k1
    rw [fetL_len hE, hE]
    have hl : ((List.range 64).map (fun k => xs[(fetI f g a b x y k).toNat]?.getD 0)).length = 64 := by simp
    rw [hl]
    rcases (show b ≤ 4 ∨ 4 < b by omega) with hb | hb
    · exact rfetch_l f g a b x y v xs w h ha ha2 hc h1 h2 h3 hx hb
    · exact rfetch_c f g a b x y v xs w h ha ha2 hc h1 h2 h3 hx hb
  · rw [fetL_none hE]
    refine (rfetch_bad f g a b x y v xs w h ha ha2 hE).mono fun e w' he => ?_
    exact ⟨⟨_, he.1, World.ownsRow_nil _ _ _ _⟩, he.2⟩
end Go.Proofs.Ytcieggaihelacaa
/- The statements' own helpers of layer 13: each tells true where the numbers are those; some of the chapter's examples. -/
set_option linter.unusedSimpArgs false
set_option linter.unusedVariables false
namespace Go.Proofs.Ytcieggaihelacaa
open Go.RowKit

theorem sized_true (f a b c d : Int) (w : World) (h1 : wideS f = a) (h2 : highS f = b) (h3 : bytesS f = c) (h4 : fmtE f = d) :
    Calls Try.prog 50 #[.int .i64 f, .int .i64 a, .int .i64 b, .int .i64 c, .int .i64 d] w fun e w' => e = .returned (.bool true) ∧ Below w.heap.size w w' := by
  subst h1 h2 h3 h4
  go_enter Try.func50, Try.ntmps50
  go_wp2_with (go_at_call 37; refine (size_any _ _).mono ?_; rintro e w' ⟨rfl, rfl⟩)
  go_ret
  exact ⟨rfl, Below.refl _ _⟩
theorem next_true (f g a b : Int) (w : World) (h1 : nextV f g = a) (h2 : nextE f g = b) :
    Calls Try.prog 51 #[.int .i64 f, .int .i64 g, .int .i64 a, .int .i64 b] w fun e w' => e = .returned (.bool true) ∧ Below w.heap.size w w' := by
  subst h1 h2
  go_enter Try.func51, Try.ntmps51
  go_wp2_with (go_at_call 41; refine (Next_any _ _ _).mono ?_; rintro e w' ⟨rfl, hb⟩)
  go_ret
  exact ⟨rfl, hb⟩
theorem corner_true (f g a x y z : Int) (w : World) (ha : -9223372036854775808 ≤ a) (ha2 : a ≤ 9223372036854775807) (h1 : cornX f g a = x) (h2 : cornY f g a = y) (h3 : cornE f g a = z) :
    Calls Try.prog 52 #[.int .i64 f, .int .i64 g, .int .i64 a, .int .i64 x, .int .i64 y, .int .i64 z] w fun e w' => e = .returned (.bool true) ∧ Below w.heap.size w w' := by
  subst h1 h2 h3
  go_enter Try.func52, Try.ntmps52
  go_wp2_with (go_at_call 46; refine (Corner_any _ _ _ _ ha ha2).mono ?_; rintro e w' ⟨rfl, hb⟩)
  go_ret
  exact ⟨rfl, hb⟩
theorem place_true (f g a b x y z : Int) (w : World) (ha : -9223372036854775808 ≤ a) (ha2 : a ≤ 9223372036854775807) (h1 : plA f g a b = x) (h2 : plS f g a b = y) (h3 : plE f g a b = z) :
    Calls Try.prog 53 #[.int .i64 f, .int .i64 g, .int .i64 a, .int .i64 b, .int .i64 x, .int .i64 y, .int .i64 z] w fun e w' => e = .returned (.bool true) ∧ Below w.heap.size w w' := by
  subst h1 h2 h3
  go_enter Try.func53, Try.ntmps53
  go_wp2_with (go_at_call 48; refine (place_any _ _ _ _ _ ha ha2).mono ?_; rintro e w' ⟨rfl, hb⟩)
  go_ret
  exact ⟨rfl, hb⟩
theorem below_next {w v u : World} (h : Below w.heap.size w v) (g : Below v.heap.size v u) : Below w.heap.size w u := h.trans (g.mono h.size)
set_option maxRecDepth 100000 in
theorem awake13_any (w : World) : Calls Try.prog 45 #[] w fun e w' => e = .returned (.bool true) ∧ Below w.heap.size w w' := by
  go_enter Try.func45, Try.ntmps45
  go_wp2_with (first
    | (go_at_call 50; refine (sized_true _ _ _ _ _ _ (by decide) (by decide) (by decide) (by decide)).mono ?_; rintro e w1 ⟨rfl, h1⟩)
    | (go_at_call 51; refine (next_true _ _ _ _ _ (by decide) (by decide)).mono ?_; rintro e w2 ⟨rfl, h2⟩)
    | (go_at_call 52; refine (corner_true _ _ _ _ _ _ _ (by decide) (by decide) (by decide) (by decide) (by decide)).mono ?_; rintro e w3 ⟨rfl, h3⟩)
    | (go_at_call 53; refine (place_true _ _ _ _ _ _ _ _ (by decide) (by decide) (by decide) (by decide) (by decide)).mono ?_; rintro e w4 ⟨rfl, h4⟩))
  go_ret
  exact ⟨rfl, below_next (below_next (below_next h1 h2) h3) h4⟩
end Go.Proofs.Ytcieggaihelacaa
/- Layer 13's statements, walked: FramePlaces, FrameTells, FrameKnown. -/
set_option linter.unusedSimpArgs false
set_option linter.unusedVariables false
namespace Go.Proofs.Ytcieggaihelacaa
open Go.RowKit

theorem framePlaces_any (f g a b : Int) (w : World) (ha : -9223372036854775808 ≤ a) (ha2 : a ≤ 9223372036854775807) :
    Calls Try.prog 9 #[.int .i64 f, .int .i64 g, .int .i64 a, .int .i64 b] w fun e w' => e = .returned (.bool true) ∧ Below w.heap.size w w' := by
  go_enter Try.func9, Try.ntmps9
  go_wp2_with (first
    | (go_at_call 46; refine (Corner_any _ _ _ _ ha ha2).mono ?_; rintro e w1 ⟨rfl, h1⟩)
    | (go_at_call 47; refine (rCorner_any _ _ _ _ ha ha2).mono ?_; rintro e w2 ⟨rfl, h2⟩)
    | (go_at_call 48; refine (place_any _ _ _ _ _ ha ha2).mono ?_; rintro e w3 ⟨rfl, h3⟩)
    | (go_at_call 49; refine (rPlace_any _ _ _ _ _ ha ha2).mono ?_; rintro e w4 ⟨rfl, h4⟩)
    | (go_at_call 45; refine (awake13_any _).mono ?_; rintro e w5 ⟨rfl, h5⟩))
  go_ret
  exact ⟨rfl, below_next (below_next (below_next (below_next h1 h2) h3) h4) h5⟩

theorem Rd.drewN {k : IntKind} {w : World} {v : Value} {xs : List Int} (h : Rd k w v xs) (n : Nat) : Rd k (w.drewN n) v xs := h.kept (Nat.le_refl _) (fun _ _ => rfl)
theorem same_true (v u : Value) (xs : List Int) (w : World) (h : Rd .i64 w v xs) (g : Rd .i64 w u xs) :
    Calls Try.prog 43 #[v, u] w fun e w' => e = .returned (.bool true) ∧ ∃ n, w' = w.drewN n :=
  (sameInts_any v u xs xs w h g).mono fun e w' ⟨h1, h2⟩ => ⟨by rw [h1, decide_eq_true rfl], h2⟩
theorem below_drewN {B : Nat} {w v : World} (h : Below B w v) (n : Nat) : Below B w (v.drewN n) := ⟨h.os, h.tape, h.output, h.size, h.block⟩

set_option maxRecDepth 100000 in
set_option maxHeartbeats 4000000 in
theorem frameTells_any (f g : Int) (w : World) :
    Calls Try.prog 8 #[.int .i64 f, .int .i64 g] w fun e w' => e = .returned (.bool true) ∧ Below w.heap.size w w' := by
  have hgl := gs_len f
  have hmx : (groupsS f).length ≤ 140737488351232 := by omega
  have hse : ((groupsS f).map (Value.int .i64)).length = (groupsS f).length := List.length_map _
  obtain ⟨gs, hgs⟩ : ∃ gs, groupsS f = gs := ⟨_, rfl⟩
  have HGS := Lib.hid hgs
  rw [hgs] at hmx hse
  clear hgl hgs
  go_enter Try.func8, Try.ntmps8
  go_wp2_with (first
    | (go_at_call 45; refine (awake13_any _).mono ?_; rintro e w9 ⟨rfl, h9⟩)
    | (go_at_call 43; refine (same_true m k gs w7 (Rd.of_owns hm hmx) (((((Rd.of_owns hk hmx).below (below_next h3 h4)).drewN n5).kept h6.size (fun b hb => h6.block b (((Rd.of_owns hk hmx).below (below_next h3 h4)).block b hb) (fun e => by have q1 := hk.lt b hb; have q2 := hl.lt b e.symm; omega))).below h7)).mono ?_; rintro e w8 ⟨rfl, n8, rfl⟩)
    | (go_at_call 39; refine (Groups_any f w6).mono ?_; rw [HGS.out]; rintro e w7 ⟨⟨m, rfl, hm⟩, h7⟩)
    | (go_at_call 44; refine (overInts_any l gs.length w.heap.size _ (w4.drewN n5) (hl.kept (below_grown (below_drewN h14 n5) none) (by by_cases hn : l.ownBlock = none; exact .inl hn; exact .inr hn)) hmx).mono ?_; rintro e w6 ⟨⟨r, rfl⟩, h6⟩)
    | (go_at_call 43; refine (same_true l k gs w4 ((Rd.of_owns hl hmx).below h14) ((Rd.of_owns hk hmx).below (below_next h3 h4))).mono ?_; rintro e w5 ⟨rfl, n5, rfl⟩)
    | (go_at_call 42; refine (rNext_any f g w3).mono ?_; rintro e w4 ⟨rfl, h4⟩; have h14 := below_next (below_next h2 h3) h4)
    | (go_at_call 41; refine (Next_any f g w2).mono ?_; rintro e w3 ⟨rfl, h3⟩)
    | (go_at_call 40; refine (rGroups_any f w1).mono ?_; rw [HGS.out]; rintro e w2 ⟨⟨k, rfl, hk⟩, h2⟩)
    | (go_at_call 39; refine (Groups_any f w).mono ?_; rw [HGS.out]; rintro e w1 ⟨⟨l, rfl, hl⟩, h1⟩)
    | (go_at_call 38; refine (rsize_any _ _).mono ?_; rintro e w' ⟨rfl, rfl⟩)
    | (go_at_call 37; refine (size_any _ _).mono ?_; rintro e w' ⟨rfl, rfl⟩))
  go_ret
  refine ⟨rfl, ?_⟩
  have q1 : Below w.heap.size w (w4.drewN n5) := below_drewN (below_next h1 h14) n5
  have q2 : Below w.heap.size w w6 := q1.grown h6 (by have := q1.size; omega) (fun j e => (hl.lt j e).1)
  exact below_next (below_drewN (below_next q2 h7) n8) h9
end Go.Proofs.Ytcieggaihelacaa
/- The contracts of the shared kit's small functions: Size. -/
set_option linter.unusedSimpArgs false
set_option linter.unusedVariables false
namespace Go.Proofs.Ytcieggaihelacaa
open Go.RowKit
theorem ksize_any (f : Int) (w : World) :
    Calls Try.prog 73 #[.int .i64 f] w fun e w' => e = .returned (.int .i64 (bytesS f)) ∧ w = w' := by
  rcases fmt_cases f with ⟨hf, h1, h2, h3, h4⟩ | ⟨hf, h1, h2, h3, h4⟩ | ⟨hf, hf', h1, h2, h3, h4⟩
  all_goals
    rw [h3]
    clear h1 h2 h3 h4
    try subst hf
    go_enter Try.func73, Try.ntmps73
    go_wp2
    go_ret
    exact ⟨rfl, rfl⟩
end Go.Proofs.Ytcieggaihelacaa
