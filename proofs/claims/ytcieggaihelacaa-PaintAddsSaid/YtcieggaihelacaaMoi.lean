/- The document's Fetch: what it refuses. -/
import Derived.Test.YtcieggaihelacaaMoh
set_option linter.unusedSimpArgs false
set_option linter.unusedVariables false
namespace Go.Proofs.Ytcieggaihelacaa
open Go.RowKit
set_option maxRecDepth 100000 in
set_option maxHeartbeats 4000000 in
theorem rfetch_bad (f g a b x y : Int) (v : Value) (xs : List Int) (w : World) (h : Rd .u8 w v xs) (ha : -9223372036854775808 ≤ a) (ha2 : a ≤ 9223372036854775807)
    (hne : fetE f g a xs.length b x y ≠ 0) :
    Calls Try.prog 24 #[v, .agg #[.int .i64 f, .int .i64 g, .int .i64 a], .int .i64 b, .int .i64 x, .int .i64 y] w fun e w' => e = .returned (.tuple #[.slice none 0 0, .int .i64 (fetE f g a xs.length b x y)]) ∧ Below w.heap.size w w' := by
  have hlen := h.len
  obtain ⟨ad, cap, rfl⟩ := h.form
  clear h
  have hB := (Below.refl w.heap.size w).alloc (Nat.le_refl _) (Obj.cells #[.int .i64 f, .int .i64 g, .int .i64 a] 23)
  have hL := (Lies.nil w).alloc (Obj.cells #[.int .i64 f, .int .i64 g, .int .i64 a] 23)
  have k0 := hL.head
  have c0 := blk_cell k0 0
  have c1 := blk_cell k0 1
  have c2 := blk_cell k0 2
  simp only [List.getElem?_toArray, List.getElem?_cons_zero, List.getElem?_cons_succ] at c0 c1 c2
  clear k0
  obtain ⟨n, hn⟩ : ∃ n, xs.length = n := ⟨_, rfl⟩
  rcases fet_cases f g a xs b x y with ⟨hc, e, _⟩ | ⟨hc, h1, e, _⟩ | ⟨hc, h1, h2, e, _⟩ | ⟨hc, h1, h2, h3, e, _⟩ | ⟨hc, h1, h2, h3, e, _⟩
  · rw [e]; clear e hne
    have ht : (cornE f g a != 0) = true := by simpa using hc
    clear hc
    go_enter Try.func24, Try.ntmps24
    go_wp2_with ((go_at_call 47; refine (rCorner_any _ _ _ _ ha ha2).mono ?_; skip; rintro e w1 ⟨rfl, hb'⟩; clear c0 c1 c2; replace hL := hL.next hb'; replace hB := below_nxt hB hb'; clear hb'; have k0 := hL.head; have c0 := blk_cell k0 0; have c1 := blk_cell k0 1; have c2 := blk_cell k0 2; simp only [List.getElem?_toArray, List.getElem?_cons_zero, List.getElem?_cons_succ] at c0 c1 c2; clear k0))
    exact bodyPost_ret (by simp [results, Try.results24, go_sem]) rfl ⟨rfl, hB⟩
  · rw [e]; clear e hne
    have ht : ((n : Int) != bytesS f) = true := by rw [← hn]; simpa using h1
    clear h1
    go_enter Try.func24, Try.ntmps24
    go_wp2_with (first
      | (go_at_call 47; refine (rCorner_any _ _ _ _ ha ha2).mono ?_; rw [hc]; rintro e w1 ⟨rfl, hb'⟩; clear c0 c1 c2; replace hL := hL.next hb'; replace hB := below_nxt hB hb'; clear hb'; have k0 := hL.head; have c0 := blk_cell k0 0; have c1 := blk_cell k0 1; have c2 := blk_cell k0 2; simp only [List.getElem?_toArray, List.getElem?_cons_zero, List.getElem?_cons_succ] at c0 c1 c2; clear k0)
      | (go_at_call 38; refine (rsize_any _ _).mono ?_; skip; rintro e w' ⟨rfl, rfl⟩)
      | (go_at_call 49; refine (rPlace_any _ _ _ _ _ ha ha2).mono ?_; skip; rintro e w2 ⟨rfl, hb'⟩; clear c0 c1 c2; replace hL := hL.next hb'; replace hB := below_nxt hB hb'; clear hb'; have k0 := hL.head; have c0 := blk_cell k0 0; have c1 := blk_cell k0 1; have c2 := blk_cell k0 2; simp only [List.getElem?_toArray, List.getElem?_cons_zero, List.getElem?_cons_succ] at c0 c1 c2; clear k0)
      | (go_at_call 27; refine (rfits_any _ _ _ _ _ _ ha ha2).mono ?_; skip; rintro e w3 ⟨rfl, hb'⟩; clear c0 c1 c2; replace hL := hL.next hb'; replace hB := below_nxt hB hb'; clear hb'; have k0 := hL.head; have c0 := blk_cell k0 0; have c1 := blk_cell k0 1; have c2 := blk_cell k0 2; simp only [List.getElem?_toArray, List.getElem?_cons_zero, List.getElem?_cons_succ] at c0 c1 c2; clear k0))
    exact bodyPost_ret (by simp [results, Try.results24, go_sem]) rfl ⟨rfl, hB⟩
  · rw [e]; clear e hne
    have ht : ((n : Int) != bytesS f) = false := by rw [← hn]; simpa using h1
    have hp : plE f g a b = 3 := by unfold plE; rw [if_pos hc, if_neg h2]
    clear h1 h2
    go_enter Try.func24, Try.ntmps24
    go_wp2_with (first
      | (go_at_call 47; refine (rCorner_any _ _ _ _ ha ha2).mono ?_; rw [hc]; rintro e w1 ⟨rfl, hb'⟩; clear c0 c1 c2; replace hL := hL.next hb'; replace hB := below_nxt hB hb'; clear hb'; have k0 := hL.head; have c0 := blk_cell k0 0; have c1 := blk_cell k0 1; have c2 := blk_cell k0 2; simp only [List.getElem?_toArray, List.getElem?_cons_zero, List.getElem?_cons_succ] at c0 c1 c2; clear k0)
      | (go_at_call 38; refine (rsize_any _ _).mono ?_; skip; rintro e w' ⟨rfl, rfl⟩)
      | (go_at_call 49; refine (rPlace_any _ _ _ _ _ ha ha2).mono ?_; rw [hp]; rintro e w2 ⟨rfl, hb'⟩; clear c0 c1 c2; replace hL := hL.next hb'; replace hB := below_nxt hB hb'; clear hb'; have k0 := hL.head; have c0 := blk_cell k0 0; have c1 := blk_cell k0 1; have c2 := blk_cell k0 2; simp only [List.getElem?_toArray, List.getElem?_cons_zero, List.getElem?_cons_succ] at c0 c1 c2; clear k0)
      | (go_at_call 27; refine (rfits_any _ _ _ _ _ _ ha ha2).mono ?_; skip; rintro e w3 ⟨rfl, hb'⟩; clear c0 c1 c2; replace hL := hL.next hb'; replace hB := below_nxt hB hb'; clear hb'; have k0 := hL.head; have c0 := blk_cell k0 0; have c1 := blk_cell k0 1; have c2 := blk_cell k0 2; simp only [List.getElem?_toArray, List.getElem?_cons_zero, List.getElem?_cons_succ] at c0 c1 c2; clear k0))
    exact bodyPost_ret (by simp [results, Try.results24, go_sem]) rfl ⟨rfl, hB⟩
  · rw [e]; clear e hne
    have ht : ((n : Int) != bytesS f) = false := by rw [← hn]; simpa using h1
    have hp : plE f g a b = 0 := by unfold plE; rw [if_pos hc, if_pos h2]
    have ht2 : (fitsE f g a x y != 0) = true := by simpa using h3
    clear h1 h2 h3
    go_enter Try.func24, Try.ntmps24
    go_wp2_with (first
      | (go_at_call 47; refine (rCorner_any _ _ _ _ ha ha2).mono ?_; rw [hc]; rintro e w1 ⟨rfl, hb'⟩; clear c0 c1 c2; replace hL := hL.next hb'; replace hB := below_nxt hB hb'; clear hb'; have k0 := hL.head; have c0 := blk_cell k0 0; have c1 := blk_cell k0 1; have c2 := blk_cell k0 2; simp only [List.getElem?_toArray, List.getElem?_cons_zero, List.getElem?_cons_succ] at c0 c1 c2; clear k0)
      | (go_at_call 38; refine (rsize_any _ _).mono ?_; skip; rintro e w' ⟨rfl, rfl⟩)
      | (go_at_call 49; refine (rPlace_any _ _ _ _ _ ha ha2).mono ?_; rw [hp]; rintro e w2 ⟨rfl, hb'⟩; clear c0 c1 c2; replace hL := hL.next hb'; replace hB := below_nxt hB hb'; clear hb'; have k0 := hL.head; have c0 := blk_cell k0 0; have c1 := blk_cell k0 1; have c2 := blk_cell k0 2; simp only [List.getElem?_toArray, List.getElem?_cons_zero, List.getElem?_cons_succ] at c0 c1 c2; clear k0)
      | (go_at_call 27; refine (rfits_any _ _ _ _ _ _ ha ha2).mono ?_; skip; rintro e w3 ⟨rfl, hb'⟩; clear c0 c1 c2; replace hL := hL.next hb'; replace hB := below_nxt hB hb'; clear hb'; have k0 := hL.head; have c0 := blk_cell k0 0; have c1 := blk_cell k0 1; have c2 := blk_cell k0 2; simp only [List.getElem?_toArray, List.getElem?_cons_zero, List.getElem?_cons_succ] at c0 c1 c2; clear k0))
    exact bodyPost_ret (by simp [results, Try.results24, go_sem]) rfl ⟨rfl, hB⟩
  · exact absurd e hne
end Go.Proofs.Ytcieggaihelacaa
