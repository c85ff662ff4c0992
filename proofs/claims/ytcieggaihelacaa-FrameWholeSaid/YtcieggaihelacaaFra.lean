/- The contracts of the frame layer's plain functions: each call returns what the plain Lean function beside it says. No condition but those that stand in the statements. -/
import Derived.Test.YtcieggaihelacaaBase
set_option linter.unusedSimpArgs false
set_option linter.unusedVariables false
namespace Go.Proofs.Ytcieggaihelacaa
open Go.RowKit
def wideS (f : Int) : Int := if f = 1 then 352 else if f = 0 then 176 else 0
theorem wideS_cases (f : Int) : (f = 1 ∧ wideS f = 352) ∨ (f = 0 ∧ wideS f = 176) ∨ (f ≠ 0 ∧ f ≠ 1 ∧ wideS f = 0) := by
  unfold wideS; split
  · omega
  · split <;> omega
theorem wideS_bd (f : Int) : 0 ≤ wideS f ∧ wideS f ≤ 352 := by have := wideS_cases f; omega
theorem wide_any (f : Int) (w : World) :
    Calls Try.prog 80 #[.int .i64 f] w fun e w' => e = .returned (.int .i64 (wideS f)) ∧ w = w' := by
  go_enter Try.func80, Try.ntmps80
  go_wp2
  all_goals (go_ret; refine ⟨ret_int ?_, rfl⟩; simp_all [wideS])
theorem high_any (f : Int) (w : World) :
    Calls Try.prog 81 #[.int .i64 f] w fun e w' => e = .returned (.int .i64 (wideS f * 9 / 11)) ∧ w = w' := by
  obtain ⟨hb1, hb2⟩ := wideS_bd f
  go_enter Try.func81, Try.ntmps81
  go_wp2_with (go_at_call 80; refine (wide_any _ _).mono ?_; rintro e w' ⟨rfl, rfl⟩)
  go_ret
  exact ⟨rfl, rfl⟩
theorem there_any (f : Int) (w : World) :
    Calls Try.prog 79 #[.int .i64 f] w fun e w' => e = .returned (.bool (decide (0 < wideS f))) ∧ w = w' := by
  go_enter Try.func79, Try.ntmps79
  go_wp2_with (go_at_call 80; refine (wide_any _ _).mono ?_; rintro e w' ⟨rfl, rfl⟩)
  go_ret
  exact ⟨rfl, rfl⟩
theorem step_any (f : Int) (w : World) (h0 : 0 ≤ f) (h1 : f ≤ 1) :
    Calls Try.prog 96 #[.int .i64 f] w fun e w' => e = .returned (.int .i64 (2 - f)) ∧ w = w' := by
  go_enter Try.func96, Try.ntmps96
  go_wp2
  go_ret
  exact ⟨rfl, rfl⟩
theorem planeAt_any (p s x y : Int) (w : World) (h0 : 0 ≤ p) (h1 : p ≤ 1000000) (h2 : 0 ≤ s) (h3 : s ≤ 1000) (h4 : 0 ≤ x) (h5 : x ≤ 1000) (h6 : 0 ≤ y) (h7 : y ≤ 1000) :
    Calls Try.prog 100 #[.agg #[.int .i64 p, .int .i64 s], .int .i64 x, .int .i64 y] w fun e w' => e = .returned (.int .i64 (p + y * s + x)) ∧ Below w.heap.size w w' := by
  have hm : 0 ≤ y * s := Int.mul_nonneg h6 h2
  have hm2 : y * s ≤ 1000 * 1000 := Int.mul_le_mul h7 h3 h2 (by omega)
  go_enter Try.func100, Try.ntmps100
  go_wp2
  go_ret
  exact ⟨rfl, (Below.refl _ _).alloc (Nat.le_refl _) _⟩
def cornerX (f g a : Int) : Int := (a-1)%11*16 + f * ((g-1)%2*176)
def cornerY (g a : Int) : Int := (a-1)/11*16 + (g-1)/2*48
theorem fcorner_any (f g a : Int) (w : World) (h0 : f = 0 ∨ f = 1) (h1 : 1 ≤ g) (h2 : g ≤ 12) (h3 : 1 ≤ a) (h4 : a ≤ 33) :
    Calls Try.prog 86 #[.int .i64 f, .int .i64 g, .int .i64 a] w fun e w' => e = .returned (.tuple #[.int .i64 (cornerX f g a), .int .i64 (cornerY g a)]) ∧ w = w' := by
  unfold cornerX cornerY
  rcases h0 with rfl | rfl
  · go_enter Try.func86, Try.ntmps86
    go_wp2
    go_ret2
    refine ⟨?_, rfl⟩
    simp
  · go_enter Try.func86, Try.ntmps86
    go_wp2
    go_ret2
    refine ⟨?_, rfl⟩
    simp
def highS (f : Int) : Int := if f = 1 then 288 else if f = 0 then 144 else 0
def bytesS (f : Int) : Int := if f = 1 then 152064 else if f = 0 then 38016 else 0
def fmtE (f : Int) : Int := if f = 1 then 0 else if f = 0 then 0 else 3
theorem fmt_cases (f : Int) : (f = 1 ∧ wideS f = 352 ∧ highS f = 288 ∧ bytesS f = 152064 ∧ fmtE f = 0) ∨ (f = 0 ∧ wideS f = 176 ∧ highS f = 144 ∧ bytesS f = 38016 ∧ fmtE f = 0) ∨ (f ≠ 0 ∧ f ≠ 1 ∧ wideS f = 0 ∧ highS f = 0 ∧ bytesS f = 0 ∧ fmtE f = 3) := by
  unfold wideS highS bytesS fmtE; split
  · exact Or.inl (by simp [*])
  · split
    · exact Or.inr (Or.inl (by simp [*]))
    · exact Or.inr (Or.inr (by simp [*]))
/-- Size: width, height, bytes, error. -/
theorem size_any (f : Int) (w : World) :
    Calls Try.prog 37 #[.int .i64 f] w fun e w' => e = .returned (.tuple #[.int .i64 (wideS f), .int .i64 (highS f), .int .i64 (bytesS f), .int .i64 (fmtE f)]) ∧ w = w' := by
  rcases fmt_cases f with ⟨hf, h1, h2, h3, h4⟩ | ⟨hf, h1, h2, h3, h4⟩ | ⟨hf, hf', h1, h2, h3, h4⟩
  all_goals
    rw [h1, h2, h3, h4]
    clear h2 h3 h4
    try subst hf
    go_enter Try.func37, Try.ntmps37
    go_wp2_with (first
      | (go_at_call 79; refine (there_any _ _).mono ?_; rintro e w' ⟨rfl, rfl⟩)
      | (go_at_call 80; refine (wide_any _ _).mono ?_; rintro e w' ⟨rfl, rfl⟩)
      | (go_at_call 81; refine (high_any _ _).mono ?_; rintro e w' ⟨rfl, rfl⟩))
    exact bodyPost_ret (by simp [results, Try.results37, go_sem]) rfl ⟨rfl, rfl⟩
theorem rsize_any (f : Int) (w : World) :
    Calls Try.prog 38 #[.int .i64 f] w fun e w' => e = .returned (.tuple #[.int .i64 (wideS f), .int .i64 (highS f), .int .i64 (bytesS f), .int .i64 (fmtE f)]) ∧ w = w' := by
  rcases fmt_cases f with ⟨hf, h1, h2, h3, h4⟩ | ⟨hf, h1, h2, h3, h4⟩ | ⟨hf, hf', h1, h2, h3, h4⟩
  all_goals
    rw [h1, h2, h3, h4]
    clear h1 h2 h3 h4
    try subst hf
    go_enter Try.func38, Try.ntmps38
    go_wp2
    exact bodyPost_ret (by simp [results, Try.results38, go_sem]) rfl ⟨rfl, rfl⟩
def groupsS (f : Int) : List Int := if f = 1 then [1, 2, 3, 4, 5, 6, 7, 8, 9, 10, 11, 12] else if f = 0 then [1, 3, 5] else []
theorem groups_any (f : Int) (w : World) (h : f = 0 ∨ f = 1) :
    Calls Try.prog 82 #[.int .i64 f] w fun e w' => (∃ v, e = .returned v ∧ w'.ownsRow w.heap.size 3 1 v (groupsS f).length ((groupsS f).map (Value.int .i64))) ∧ Below w.heap.size w w' := by
  have key : ∀ (f last st : Int) (xs : List Int) (j : Nat), f = 0 ∧ last = 5 ∧ st = 2 ∧ xs = [1, 3, 5] ∨ f = 1 ∧ last = 12 ∧ st = 1 ∧ xs = [1, 2, 3, 4, 5, 6, 7, 8, 9, 10, 11, 12] → j < xs.length →
      (1 + (j : Int) * st ≤ last ∧ xs.take (j + 1) = xs.take j ++ [1 + (j : Int) * st]) := by
    rintro f last st xs j (⟨rfl, rfl, rfl, rfl⟩ | ⟨rfl, rfl, rfl, rfl⟩) hj
    · match j, hj with
      | 0, _ => decide
      | 1, _ => decide
      | 2, _ => decide
    · match j, hj with
      | 0, _ => decide
      | 1, _ => decide
      | 2, _ => decide
      | 3, _ => decide
      | 4, _ => decide
      | 5, _ => decide
      | 6, _ => decide
      | 7, _ => decide
      | 8, _ => decide
      | 9, _ => decide
      | 10, _ => decide
      | 11, _ => decide
  rcases h with rfl | rfl
  · have hg : groupsS 0 = [1, 3, 5] := rfl
    rw [hg]; clear hg
    go_enter Try.func82, Try.ntmps82
    go_wp2
    go_loopw [2, 4] (fun v i wr => ∃ k : Nat, k ≤ 3 ∧ i = .int .i64 (1 + (k : Int) * 2) ∧ wr.ownsRow w.heap.size 3 1 v k ((([1, 3, 5] : List Int).take k).map (Value.int .i64)) ∧ Below w.heap.size w wr) (fun _ i _ => 100 - (intOf i).toNat)
    case atStart => exact ⟨0, by omega, rfl, World.ownsRow_nil _ _ _ _, Below.refl _ _⟩
    case round =>
      obtain ⟨k, hk, rfl, hown, hb⟩ := hrel
      by_cases hlt : k < 3
      · obtain ⟨h5, htk⟩ := key 0 5 2 [1, 3, 5] k (by simp) hlt
        have HT := Lib.hid htk
        clear htk
        go_wp2_with (first
          | (go_at_call 96; refine (step_any _ _ (by omega) (by omega)).mono ?_; rintro e w' ⟨rfl, rfl⟩)
          | (at_builtin; refine wp_app1 Try.elInt rfl rfl (hown.alloc _) (cell_alloc1 _ _ _) rfl (by omega) (by have := hb.size; simp; omega) ?_; intro g1 c1 w1 hown1 hgrow1 _))
        go_roundw
        case rel =>
          refine ⟨k + 1, by omega, by go_num, ?_, ?_⟩
          · rw [HT.out, List.map_append]; exact hown1
          · exact (hb.alloc hb.size _).grown hgrow1 (by have := hb.size; simp; omega) (fun j e => (hown.lt j e).1)
        case measure => simp [intOf]; omega
      · have h3 : k = 3 := by omega
        subst h3
        go_wp2
        go_ret
        exact ⟨⟨_, rfl, hown⟩, hb⟩
  · have hg : groupsS 1 = [1, 2, 3, 4, 5, 6, 7, 8, 9, 10, 11, 12] := rfl
    rw [hg]; clear hg
    go_enter Try.func82, Try.ntmps82
    go_wp2
    go_loopw [2, 4] (fun v i wr => ∃ k : Nat, k ≤ 12 ∧ i = .int .i64 (1 + (k : Int)) ∧ wr.ownsRow w.heap.size 3 1 v k ((([1, 2, 3, 4, 5, 6, 7, 8, 9, 10, 11, 12] : List Int).take k).map (Value.int .i64)) ∧ Below w.heap.size w wr) (fun _ i _ => 100 - (intOf i).toNat)
    case atStart => exact ⟨0, by omega, rfl, World.ownsRow_nil _ _ _ _, Below.refl _ _⟩
    case round =>
      obtain ⟨k, hk, rfl, hown, hb⟩ := hrel
      by_cases hlt : k < 12
      · obtain ⟨h5, htk⟩ := key 1 12 1 [1, 2, 3, 4, 5, 6, 7, 8, 9, 10, 11, 12] k (by simp) hlt
        simp only [Int.mul_one] at h5 htk
        have HT := Lib.hid htk
        clear htk
        go_wp2_with (first
          | (go_at_call 96; refine (step_any _ _ (by omega) (by omega)).mono ?_; rintro e w' ⟨rfl, rfl⟩)
          | (at_builtin; refine wp_app1 Try.elInt rfl rfl (hown.alloc _) (cell_alloc1 _ _ _) rfl (by omega) (by have := hb.size; simp; omega) ?_; intro g1 c1 w1 hown1 hgrow1 _))
        go_roundw
        case rel =>
          refine ⟨k + 1, by omega, by go_num, ?_, ?_⟩
          · rw [HT.out, List.map_append]; exact hown1
          · exact (hb.alloc hb.size _).grown hgrow1 (by have := hb.size; simp; omega) (fun j e => (hown.lt j e).1)
        case measure => simp [intOf]; omega
      · have h3 : k = 12 := by omega
        subst h3
        go_wp2
        go_ret
        exact ⟨⟨_, rfl, hown⟩, hb⟩
end Go.Proofs.Ytcieggaihelacaa
