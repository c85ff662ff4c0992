/- The contracts of the motion layer's plain functions: Half, in, at, part, Fits; and of the document's answers beside them. -/
import Derived.Test.YtcieggaihelacaaFrl
import Derived.Lib.MinMax
set_option linter.unusedSimpArgs false
set_option linter.unusedVariables false
namespace Go.Proofs.Ytcieggaihelacaa
open Go.RowKit
theorem below_nxt {w v u : World} (h : Below w.heap.size w v) (g : Below v.heap.size v u) : Below w.heap.size w u := h.trans (g.mono h.size)
def halfS (x : Int) : Int := x.tdiv 2
theorem half_tdiv (x : Int) : halfS x = if 0 ≤ x then x / 2 else -((-x) / 2) := by
  unfold halfS
  split
  · rename_i h; exact Int.tdiv_eq_ediv_of_nonneg h
  · rename_i h
    have e : x = -(-x) := by omega
    rw [e, Int.neg_tdiv, Int.tdiv_eq_ediv_of_nonneg (by omega)]
    simp
theorem half_any (x : Int) (w : World) (h0 : -9223372036854775808 ≤ x) (h1 : x ≤ 9223372036854775807) :
    Calls Try.prog 31 #[.int .i64 x] w fun e w' => e = .returned (.int .i64 (halfS x)) ∧ w = w' := by
  have hh := half_tdiv x
  have HH := Lib.hid hh
  unfold halfS
  clear hh
  go_enter Try.func31, Try.ntmps31
  go_wp2
  go_ret
  exact ⟨ret_int rfl, rfl⟩
theorem part_any (n : Int) (w : World) :
    Calls Try.prog 78 #[.int .i64 n] w fun e w' => e = .returned (.bool (decide (-15 ≤ n ∧ n ≤ 15))) ∧ w = w' := by
  by_cases h1 : -15 ≤ n
  · by_cases h2 : n ≤ 15
    · go_enter Try.func78, Try.ntmps78
      go_wp2
      go_ret
      exact ⟨by first | (simp [*]; done) | (simp <;> omega), rfl⟩
    · go_enter Try.func78, Try.ntmps78
      go_wp2
      go_ret
      exact ⟨by first | (simp [*]; done) | (simp <;> omega), rfl⟩
  · go_enter Try.func78, Try.ntmps78
    go_wp2
    go_ret
    exact ⟨by first | (simp [*]; done) | (simp <;> omega), rfl⟩
theorem in_any (s : Value) (W H x y : Int) (w : World) :
    Calls Try.prog 76 #[.agg #[s, .int .i64 W, .int .i64 H], .int .i64 x, .int .i64 y] w fun e w' => e = .returned (.bool (decide (0 ≤ x ∧ x < W ∧ 0 ≤ y ∧ y < H))) ∧ Below w.heap.size w w' := by
  by_cases h1 : 0 ≤ x
  · by_cases h2 : x < W
    · by_cases h3 : 0 ≤ y
      · go_enter Try.func76, Try.ntmps76
        go_wp2
        go_ret
        exact ⟨by first | (simp [*]; done) | (simp <;> omega), (Below.refl _ _).alloc (Nat.le_refl _) _⟩
      · go_enter Try.func76, Try.ntmps76
        go_wp2
        go_ret
        exact ⟨by first | (simp [*]; done) | (simp <;> omega), (Below.refl _ _).alloc (Nat.le_refl _) _⟩
    · go_enter Try.func76, Try.ntmps76
      go_wp2
      go_ret
      exact ⟨by first | (simp [*]; done) | (simp <;> omega), (Below.refl _ _).alloc (Nat.le_refl _) _⟩
  · go_enter Try.func76, Try.ntmps76
    go_wp2
    go_ret
    exact ⟨by first | (simp [*]; done) | (simp <;> omega), (Below.refl _ _).alloc (Nat.le_refl _) _⟩
theorem at_any (v : Value) (xs : List Int) (W H x y : Int) (k : Nat) (w : World) (h : Rd .u8 w v xs) (hk : k < xs.length) (he : y * W + x = k) (hW0 : 0 ≤ W) (hW1 : W ≤ 1000) (hx0 : 0 ≤ x) (hx1 : x ≤ 1000) (hy0 : 0 ≤ y) (hy1 : y ≤ 1000) :
    Calls Try.prog 77 #[.agg #[v, .int .i64 W, .int .i64 H], .int .i64 x, .int .i64 y] w fun e w' => e = .returned (.int .u8 (xs[k]?.getD 0)) ∧ Below w.heap.size w w' := by
  have hm : 0 ≤ y * W := Int.mul_nonneg hy0 hW0
  have hm2 : y * W ≤ 1000 * 1000 := Int.mul_le_mul hy1 hW1 hW0 (by omega)
  have hl := h.len
  obtain ⟨b, off, cap, rfl, hb, hc, hh⟩ := h.solid (by omega)
  have hB : Below w.heap.size w (w.alloc (.cells #[.slice (some ⟨b, off, none⟩) xs.length cap, .int .i64 W, .int .i64 H] 81)) := (Below.refl _ w).alloc (Nat.le_refl _) _
  have hcell := (hB.cell (p := ⟨b, off + k, none⟩) hb).trans (hh k hk)
  generalize xs[k]?.getD 0 = u at *
  have HB := Lib.hid hB
  have HE := Lib.hid he
  clear hh h hB
  have hi : (y * W + x).toNat = k := by omega
  go_enter Try.func77, Try.ntmps77
  go_wp2
  go_ret
  exact ⟨rfl, HB.out⟩
/-- Why a vector does not fit. -/
def fitsE (f g a x y : Int) : Int := if cornE f g a = 0 then (if -15 ≤ x ∧ x ≤ 15 ∧ -15 ≤ y ∧ y ≤ 15 then (if 0 ≤ cornerX f g a + x ∧ cornerX f g a + x + 16 ≤ wideS f ∧ 0 ≤ cornerY g a + y ∧ cornerY g a + y + 16 ≤ highS f then 0 else 12) else 3) else cornE f g a
theorem fits_cases (f g a x y : Int) :
    (cornE f g a ≠ 0 ∧ fitsE f g a x y = cornE f g a) ∨
    (cornE f g a = 0 ∧ ¬ (-15 ≤ x ∧ x ≤ 15 ∧ -15 ≤ y ∧ y ≤ 15) ∧ fitsE f g a x y = 3) ∨
    (cornE f g a = 0 ∧ (-15 ≤ x ∧ x ≤ 15 ∧ -15 ≤ y ∧ y ≤ 15) ∧ ¬ (0 ≤ cornerX f g a + x ∧ cornerX f g a + x + 16 ≤ wideS f ∧ 0 ≤ cornerY g a + y ∧ cornerY g a + y + 16 ≤ highS f) ∧ fitsE f g a x y = 12) ∨
    (cornE f g a = 0 ∧ (-15 ≤ x ∧ x ≤ 15 ∧ -15 ≤ y ∧ y ≤ 15) ∧ (0 ≤ cornerX f g a + x ∧ cornerX f g a + x + 16 ≤ wideS f ∧ 0 ≤ cornerY g a + y ∧ cornerY g a + y + 16 ≤ highS f) ∧ fitsE f g a x y = 0) := by
  by_cases h1 : cornE f g a = 0
  · by_cases h2 : -15 ≤ x ∧ x ≤ 15 ∧ -15 ≤ y ∧ y ≤ 15
    · by_cases h3 : 0 ≤ cornerX f g a + x ∧ cornerX f g a + x + 16 ≤ wideS f ∧ 0 ≤ cornerY g a + y ∧ cornerY g a + y + 16 ≤ highS f
      · exact .inr (.inr (.inr ⟨h1, h2, h3, by unfold fitsE; rw [if_pos h1, if_pos h2, if_pos h3]⟩))
      · exact .inr (.inr (.inl ⟨h1, h2, h3, by unfold fitsE; rw [if_pos h1, if_pos h2, if_neg h3]⟩))
    · exact .inr (.inl ⟨h1, h2, by unfold fitsE; rw [if_pos h1, if_neg h2]⟩)
  · exact .inl ⟨h1, by unfold fitsE; rw [if_neg h1]⟩
theorem run_max_ints4 {P : Program} (w : World) (ts : Array TypeId) (t : TypeId) (k1 k2 k3 k4 : IntKind) (a b c d : Int) :
    (Builtin.max_ ts t #[.int k1 a, .int k2 b, .int k3 c, .int k4 d]).run P w = .ok (.int k1 (max (max (max a b) c) d)) w := by
  have e : ∀ x y : Int, (if y > x then y else x) = max x y := fun x y => by rw [Int.max_def]; split <;> split <;> omega
  simp [Builtin.max_, Builtin.max2, e]
attribute [local go_sem high] run_max_ints4
theorem spot_cells {w w1 : World} {a b c : Value} {t : TypeId} (h : Below (w.alloc (Obj.cells #[a, b, c] t)).heap.size (w.alloc (Obj.cells #[a, b, c] t)) w1) :
    w1.cell? ⟨w.heap.size, 0, none⟩ = some a ∧ w1.cell? ⟨w.heap.size, 1, none⟩ = some b ∧ w1.cell? ⟨w.heap.size, 2, none⟩ = some c := by
  have cb := blk_kept (World.alloc_heap_new w (Obj.cells #[a, b, c] t)) (below_grown h none) (by simp)
  exact ⟨blk_cell cb 0, blk_cell cb 1, blk_cell cb 2⟩
set_option maxRecDepth 100000 in
set_option maxHeartbeats 1000000 in
theorem rfits_any (f g a x y : Int) (w : World) (ha : -9223372036854775808 ≤ a) (ha2 : a ≤ 9223372036854775807) :
    Calls Try.prog 27 #[.agg #[.int .i64 f, .int .i64 g, .int .i64 a], .int .i64 x, .int .i64 y] w fun e w' => e = .returned (.int .i64 (fitsE f g a x y)) ∧ Below w.heap.size w w' := by
  have hb := (Below.refl w.heap.size w).alloc (Nat.le_refl _) (Obj.cells #[.int .i64 f, .int .i64 g, .int .i64 a] 23)
  rcases fits_cases f g a x y with ⟨hc, e⟩ | ⟨hc, h1, e⟩ | ⟨hc, h1, h2, e⟩ | ⟨hc, h1, h2, e⟩
  · rw [e]; clear e
    have ht : (cornE f g a != 0) = true := by simpa using hc
    clear hc
    go_enter Try.func27, Try.ntmps27
    go_wp2_with (go_at_call 47; refine (rCorner_any _ _ _ _ ha ha2).mono ?_; rintro e w1 ⟨rfl, hb'⟩; obtain ⟨c0, c1, c2⟩ := spot_cells hb'; replace hb := below_nxt hb hb'; clear hb')
    go_ret
    exact ⟨rfl, hb⟩
  · rw [e]; clear e
    by_cases hx : -15 ≤ x ∧ x ≤ 15
    · have t1 : decide (-15 ≤ x ∧ x ≤ 15) = true := by simpa using hx
      have t2 : decide (-15 ≤ y ∧ y ≤ 15) = false := by simp only [decide_eq_false_iff_not]; omega
      clear h1 hx
      go_enter Try.func27, Try.ntmps27
      go_wp2_with (first
        | (go_at_call 47; refine (rCorner_any _ _ _ _ ha ha2).mono ?_; rw [hc]; rintro e w1 ⟨rfl, hb'⟩; obtain ⟨c0, c1, c2⟩ := spot_cells hb'; replace hb := below_nxt hb hb'; clear hb')
        | (go_at_call 78; refine (part_any _ _).mono ?_; (first | rw [t1] | rw [t2]); rintro e w' ⟨rfl, rfl⟩))
      go_ret
      exact ⟨rfl, hb⟩
    · have t1 : decide (-15 ≤ x ∧ x ≤ 15) = false := by simpa using hx
      clear h1 hx
      go_enter Try.func27, Try.ntmps27
      go_wp2_with (first
        | (go_at_call 47; refine (rCorner_any _ _ _ _ ha ha2).mono ?_; rw [hc]; rintro e w1 ⟨rfl, hb'⟩; obtain ⟨c0, c1, c2⟩ := spot_cells hb'; replace hb := below_nxt hb hb'; clear hb')
        | (go_at_call 78; refine (part_any _ _).mono ?_; rw [t1]; rintro e w' ⟨rfl, rfl⟩))
      go_ret
      exact ⟨rfl, hb⟩
  · rw [e]; clear e
    obtain ⟨hf, hg, ha3, hX, hY⟩ := corn_ok hc
    obtain ⟨q0, q1, q2, q3⟩ := corner_bd hf hg ha3
    have hwh : wideS f ≤ 352 ∧ highS f ≤ 288 := by rcases fmt_cases f with ⟨_, h1, h2, _⟩ | ⟨_, h1, h2, _⟩ | ⟨_, _, h1, h2, _⟩ <;> omega
    have t1 : decide (-15 ≤ x ∧ x ≤ 15) = true := by simp only [decide_eq_true_eq]; omega
    have t2 : decide (-15 ≤ y ∧ y ≤ 15) = true := by simp only [decide_eq_true_eq]; omega
    generalize cornerX f g a = X at *
    generalize cornerY g a = Y at *
    obtain ⟨W, hW⟩ : ∃ W, wideS f = W := ⟨_, rfl⟩
    obtain ⟨H, hH⟩ : ∃ H, highS f = H := ⟨_, rfl⟩
    rw [hW] at q1 hwh h2
    rw [hH] at q3 hwh h2
    have HC := Lib.hid (And.intro hX (And.intro hY hc))
    have HS := Lib.hid (And.intro hW hH)
    clear hc hX hY hg ha3 hW hH hf
    have h2' : X + x < 0 ∨ (0 ≤ X + x ∧ W < X + x + 16) ∨ (0 ≤ X + x ∧ X + x + 16 ≤ W ∧ Y + y < 0) ∨ (0 ≤ X + x ∧ X + x + 16 ≤ W ∧ 0 ≤ Y + y ∧ H < Y + y + 16) := by omega
    clear h2
    rcases h2' with h2 | h2 | h2 | h2
    all_goals
      go_enter Try.func27, Try.ntmps27
      go_wp2_with (first
        | (go_at_call 47; refine (rCorner_any _ _ _ _ ha ha2).mono ?_; rw [HC.out.1, HC.out.2.1, HC.out.2.2]; rintro e w1 ⟨rfl, hb'⟩; obtain ⟨c0, c1, c2⟩ := spot_cells hb'; replace hb := below_nxt hb hb'; clear hb')
        | (go_at_call 38; refine (rsize_any _ _).mono ?_; rw [HS.out.1, HS.out.2]; rintro e w' ⟨rfl, rfl⟩)
        | (go_at_call 78; refine (part_any _ _).mono ?_; (first | rw [t1] | rw [t2]); rintro e w' ⟨rfl, rfl⟩))
      go_ret
      exact ⟨rfl, hb⟩
  · rw [e]; clear e
    obtain ⟨hf, hg, ha3, hX, hY⟩ := corn_ok hc
    obtain ⟨q0, q1, q2, q3⟩ := corner_bd hf hg ha3
    have hwh : wideS f ≤ 352 ∧ highS f ≤ 288 := by rcases fmt_cases f with ⟨_, h1, h2, _⟩ | ⟨_, h1, h2, _⟩ | ⟨_, _, h1, h2, _⟩ <;> omega
    have t1 : decide (-15 ≤ x ∧ x ≤ 15) = true := by simp only [decide_eq_true_eq]; omega
    have t2 : decide (-15 ≤ y ∧ y ≤ 15) = true := by simp only [decide_eq_true_eq]; omega
    generalize cornerX f g a = X at *
    generalize cornerY g a = Y at *
    obtain ⟨W, hW⟩ : ∃ W, wideS f = W := ⟨_, rfl⟩
    obtain ⟨H, hH⟩ : ∃ H, highS f = H := ⟨_, rfl⟩
    rw [hW] at q1 hwh h2
    rw [hH] at q3 hwh h2
    have HC := Lib.hid (And.intro hX (And.intro hY hc))
    have HS := Lib.hid (And.intro hW hH)
    clear hc hX hY hg ha3 hW hH hf
    go_enter Try.func27, Try.ntmps27
    go_wp2_with (first
      | (go_at_call 47; refine (rCorner_any _ _ _ _ ha ha2).mono ?_; rw [HC.out.1, HC.out.2.1, HC.out.2.2]; rintro e w1 ⟨rfl, hb'⟩; obtain ⟨c0, c1, c2⟩ := spot_cells hb'; replace hb := below_nxt hb hb'; clear hb')
      | (go_at_call 38; refine (rsize_any _ _).mono ?_; rw [HS.out.1, HS.out.2]; rintro e w' ⟨rfl, rfl⟩)
      | (go_at_call 78; refine (part_any _ _).mono ?_; (first | rw [t1] | rw [t2]); rintro e w' ⟨rfl, rfl⟩))
    go_ret
    exact ⟨rfl, hb⟩
end Go.Proofs.Ytcieggaihelacaa
