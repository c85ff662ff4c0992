/- The contracts of OverInts, Groups, Concat of three lists, Next, Corner and of the document's answers beside them. -/
import Derived.Test.YtcieggaihelacaaFrb
set_option linter.unusedSimpArgs false
set_option linter.unusedVariables false
namespace Go.Proofs.Ytcieggaihelacaa
open Go.RowKit
theorem overInts_any (v : Value) (n base : Nat) (xs : List Value) (w : World) (h : w.ownsRow base 3 1 v n xs) (hn : n ≤ 140737488351232) :
    Calls Try.prog 44 #[v] w fun e w' => (∃ r, e = .returned r) ∧ w.grownBy w' v.ownBlock := by
  rcases owns_blk h with ⟨rfl, rfl, rfl⟩ | ⟨g, cap, cur, rfl, hb, hh, hnc, hcm, hs, ht⟩
  · go_enter Try.func44, Try.ntmps44
    go_wp2
    go_loop [2] (fun i => i = .int .i64 0) (fun _ => 0)
    case atStart => rfl
    case round =>
      subst hrel
      go_wp2
      go_end0
      exact ⟨⟨_, rfl⟩, World.grownBy.refl _ _⟩
  · clear h ht
    have HS := Lib.hid hs
    clear hs
    go_enter Try.func44, Try.ntmps44
    go_wp2
    go_loopw [2] (fun i wr => ∃ k : Nat, k ≤ n ∧ i = .int .i64 k ∧ w.grownBy wr (some g) ∧ ∃ cur', wr.heap[g]? = some (.cells cur' 3 (0, 0)) ∧ cur'.size = cap) (fun i _ => n - (intOf i).toNat)
    case atStart => exact ⟨0, Nat.zero_le _, rfl, World.grownBy.refl _ _, cur, hh, HS.out⟩
    case round =>
      obtain ⟨k, hk, rfl, hg, cur', hh', hs'⟩ := hrel
      have HS' := Lib.hid hs'
      have HH := Lib.hid hh'
      clear hs' hh' hh
      by_cases hlt : k < n
      · have hc : wr.cell? ⟨g, k, none⟩ = some (cur'[k]?.getD undef) := by
          rw [blk_cell HH.out, Array.getElem?_eq_getElem (by rw [HS'.out]; omega)]; rfl
        have hf := blk_free HH.out k
        generalize cur'[k]?.getD undef = u at hc
        go_wp2
        go_roundw
        case rel => exact ⟨k + 1, by omega, by go_num, hg.trans (grown_set wr ⟨g, k, none⟩ _), _, blk_set HH.out k _, by simp [HS'.out]⟩
        case measure => simp [intOf]; omega
      · go_wp2
        go_end0
        exact ⟨⟨_, rfl⟩, hg⟩
theorem fmt_yes {f : Int} (h : f = 0 ∨ f = 1) : 0 < wideS f ∧ fmtE f = 0 := by rcases h with rfl | rfl <;> decide
theorem fmt_no {f : Int} (h : ¬ (f = 0 ∨ f = 1)) : wideS f = 0 ∧ fmtE f = 3 ∧ groupsS f = [] := by
  unfold wideS fmtE groupsS
  rw [if_neg (by omega), if_neg (by omega), if_neg (by omega), if_neg (by omega), if_neg (by omega), if_neg (by omega)]
  exact ⟨rfl, rfl, rfl⟩
theorem gs_len (f : Int) : (groupsS f).length ≤ 12 := by
  unfold groupsS; split
  · decide
  · split <;> decide
theorem Groups_any (f : Int) (w : World) :
    Calls Try.prog 39 #[.int .i64 f] w fun e w' => (∃ v, e = .returned (.tuple #[v, .int .i64 (fmtE f)]) ∧ w'.ownsRow w.heap.size 3 1 v (groupsS f).length ((groupsS f).map (Value.int .i64))) ∧ Below w.heap.size w w' := by
  by_cases h : f = 0 ∨ f = 1
  · obtain ⟨h1, h2⟩ := fmt_yes h
    have t : decide (0 < wideS f) = true := by simpa using h1
    rw [h2]; clear h1 h2
    go_enter Try.func39, Try.ntmps39
    go_wp2_with (first
      | (go_at_call 79; refine (there_any _ _).mono ?_; rintro e w' ⟨rfl, rfl⟩)
      | (go_at_call 82; refine (groups_any _ _ h).mono ?_; rintro e w' ⟨⟨v, rfl, hown⟩, hb⟩))
    go_ret2
    exact ⟨⟨_, rfl, hown⟩, hb⟩
  · obtain ⟨h1, h2, h3⟩ := fmt_no h
    have t : decide (0 < wideS f) = false := by rw [h1]; rfl
    rw [h2, h3]; clear h1 h2 h3 h
    go_enter Try.func39, Try.ntmps39
    go_wp2_with (first
      | (go_at_call 79; refine (there_any _ _).mono ?_; rintro e w' ⟨rfl, rfl⟩))
    go_ret2
    exact ⟨⟨_, rfl, World.ownsRow_nil _ _ _ _⟩, Below.refl _ _⟩
theorem owns_new {w : World} (t : TypeId) (us : List Value) (hl : us.length ≤ maxLen) : (w.alloc (.cells us.toArray t)).ownsRow w.heap.size t 1 (.slice (some ⟨w.heap.size, 0, none⟩) us.length us.length) us.length us :=
  ⟨by simp, .inr ⟨w.heap.size, us.length, us.toArray, rfl, Nat.le_refl _, World.alloc_heap_new w _, Nat.le_refl _, hl, by simp, by simp⟩⟩
theorem rGroups_any (f : Int) (w : World) :
    Calls Try.prog 40 #[.int .i64 f] w fun e w' => (∃ v, e = .returned (.tuple #[v, .int .i64 (fmtE f)]) ∧ w'.ownsRow w.heap.size 3 1 v (groupsS f).length ((groupsS f).map (Value.int .i64))) ∧ Below w.heap.size w w' := by
  by_cases h0 : f = 0
  · subst h0
    go_enter Try.func40, Try.ntmps40
    go_wp2
    go_ret2
    exact ⟨⟨_, rfl, owns_new 3 [.int .i64 1, .int .i64 3, .int .i64 5] (by decide)⟩, (Below.refl _ _).alloc (Nat.le_refl _) _⟩
  by_cases h1 : f = 1
  · subst h1
    go_enter Try.func40, Try.ntmps40
    go_wp2
    go_ret2
    exact ⟨⟨_, rfl, owns_new 3 [.int .i64 1, .int .i64 2, .int .i64 3, .int .i64 4, .int .i64 5, .int .i64 6, .int .i64 7, .int .i64 8, .int .i64 9, .int .i64 10, .int .i64 11, .int .i64 12] (by decide)⟩, (Below.refl _ _).alloc (Nat.le_refl _) _⟩
  · obtain ⟨_, h2, h3⟩ := fmt_no (show ¬ (f = 0 ∨ f = 1) by omega)
    rw [h2, h3]; clear h2 h3
    go_enter Try.func40, Try.ntmps40
    go_wp2
    go_ret2
    exact ⟨⟨_, rfl, World.ownsRow_nil _ _ _ _⟩, Below.refl _ _⟩
end Go.Proofs.Ytcieggaihelacaa
