/- The contracts of the paint layer's Add and Flat. -/
import Derived.Test.YtcieggaihelacaaPa
set_option linter.unusedSimpArgs false
set_option linter.unusedVariables false
namespace Go.Proofs.Ytcieggaihelacaa
open Go.RowKit
set_option maxRecDepth 100000
theorem small_of {ys : List Int} (h : ∀ j, j < ys.length → -1048576 ≤ ys[j]?.getD 0 ∧ ys[j]?.getD 0 ≤ 1048576) : small ys := fun y hy => by
  obtain ⟨j, hj, rfl⟩ := List.getElem_of_mem hy
  have := h j hj
  rw [List.getElem?_eq_getElem hj] at this
  exact this
theorem notSmall {ys : List Int} {k : Nat} (hk : k < ys.length) (h : ys[k]?.getD 0 < -1048576 ∨ 1048576 < ys[k]?.getD 0) : ¬ small ys := fun hs => by
  have := hs.at hk; omega
theorem addL_none {xs ys : List Int} (h : addE xs.length ys ≠ 0) : addL xs ys = [] := by unfold addL; rw [if_neg h]
set_option maxHeartbeats 1000000 in
theorem add_any (v u : Value) (xs ys : List Int) (w : World) (h : Rd .u8 w v xs) (hb : byt xs) (g : Rd .i64 w u ys) :
    Calls Try.prog 58 #[v, u] w fun e w' => (∃ r, e = .returned (.tuple #[r, .int .i64 (addE xs.length ys)]) ∧ w'.ownsRow w.heap.size 5 1 r (addL xs ys).length ((addL xs ys).map (Value.int .u8))) ∧ Below w.heap.size w w' := by
  by_cases hl : xs.length = 64 ∧ ys.length = 64
  · obtain ⟨yb, yo, yc, rfl, hyb, hyc, hyh⟩ := g.solid (by omega)
    obtain ⟨xa, xc, rfl⟩ := h.form
    have hl1 := hl.1
    have hl2 := hl.2
    have HL := Lib.hid hl
    rw [hl2] at hyc
    have HH := Lib.hid h
    have HG := Lib.hid g
    have HBY := Lib.hid hb
    have HYH := Lib.hid hyh
    by_cases hs : small ys
    · have hE : addE xs.length ys = 0 := by unfold addE; rw [if_pos hl, if_pos hs]
      have hLZ : addL xs ys = addZ xs ys := by unfold addL; rw [if_pos hE]
      have hzl : (addZ xs ys).length = 64 := by rw [addZ_len (by omega), hl1]
      rw [hE, hLZ, hzl, hl1, hl2]
      have HS := Lib.hid hs
      clear h g hb hyh hl hE hLZ hzl hs hl1 hl2
      go_enter Try.func58, Try.ntmps58
      go_wp2
      go_loop [7, 18] (fun _ i => ∃ k : Nat, k ≤ 64 ∧ i = .int .i64 k) (fun _ i => 64 - (intOf i).toNat)
      case atStart => exact ⟨0, by omega, rfl⟩
      case round =>
        obtain ⟨k, hk, rfl⟩ := hrel
        by_cases hlt : k < 64
        · have hlt' : (k : Int) < 64 := by omega
          have hc := HYH.out k (by rw [HL.out.2]; exact hlt)
          have hb := HS.out.at (k := k) (by rw [HL.out.2]; exact hlt)
          generalize ys[k]?.getD 0 = y at hc hb
          go_wp2
          go_round
          case rel => exact ⟨k + 1, by omega, by go_num⟩
          case measure => simp [intOf]; omega
        · have e : k = 64 := by omega
          subst e
          have hz := zip_any _ _ xs ys w HH.out HBY.out HG.out (by rw [HL.out.1, HL.out.2]) HS.out (by rw [HL.out.1]; decide) (by rw [HL.out.1]; decide)
          rw [HL.out.1, HL.out.2] at hz
          have HZ := Lib.hid hz
          clear hz
          go_wp2_with (go_at_call 91; refine HZ.out.mono ?_; rintro e w1 ⟨⟨r, rfl, hown⟩, hb1⟩)
          go_ret2
          exact ⟨⟨_, rfl, hown⟩, hb1⟩
    · have hE : addE xs.length ys = 3 := by unfold addE; rw [if_pos hl, if_neg hs]
      rw [addL_none (by rw [hE]; decide), hE, hl1, hl2]
      have HS := Lib.hid hs
      clear h g hb hyh hl hE hs hl1 hl2
      go_enter Try.func58, Try.ntmps58
      go_wp2
      go_loop [7, 18] (fun _ i => ∃ k : Nat, k ≤ 64 ∧ i = .int .i64 k ∧ ∀ j, j < k → -1048576 ≤ ys[j]?.getD 0 ∧ ys[j]?.getD 0 ≤ 1048576) (fun _ i => 64 - (intOf i).toNat)
      case atStart => exact ⟨0, by omega, rfl, fun j hj => by omega⟩
      case round =>
        obtain ⟨k, hk, rfl, hn⟩ := hrel
        have HN := Lib.hid hn
        clear hn
        by_cases hlt : k < 64
        · have hlt' : (k : Int) < 64 := by omega
          have hc := HYH.out k (by rw [HL.out.2]; exact hlt)
          obtain ⟨y, hy⟩ : ∃ y, ys[k]?.getD 0 = y := ⟨_, rfl⟩
          rw [hy] at hc
          have HY := Lib.hid hy
          clear hy
          rcases (show y < -1048576 ∨ (-1048576 ≤ y ∧ 1048576 < y) ∨ (-1048576 ≤ y ∧ y ≤ 1048576) by omega) with h1 | ⟨h1, h2⟩ | ⟨h1, h2⟩
          · go_wp2
            go_ret2
            exact ⟨⟨_, rfl, World.ownsRow_nil _ _ _ _⟩, Below.refl _ _⟩
          · go_wp2
            go_ret2
            exact ⟨⟨_, rfl, World.ownsRow_nil _ _ _ _⟩, Below.refl _ _⟩
          · go_wp2
            go_round
            case rel =>
              refine ⟨k + 1, by omega, by go_num, fun j hj => ?_⟩
              by_cases e : j = k
              · subst e; rw [HY.out]; exact ⟨h1, h2⟩
              · exact HN.out j (by omega)
            case measure => simp [intOf]; omega
        · exact absurd (small_of (ys := ys) (fun j hj => HN.out j (by rw [HL.out.2] at hj; omega))) HS.out
  · have hE : addE xs.length ys = 2 := by unfold addE; rw [if_neg hl]
    rw [addL_none (by rw [hE]; decide), hE]
    have lx := h.len
    have ly := g.len
    obtain ⟨xa, xc, rfl⟩ := h.form
    obtain ⟨ya, yc, rfl⟩ := g.form
    have key : ((xs.length : Int) != 64) = true ∨ (((xs.length : Int) != 64) = false ∧ ((ys.length : Int) != 64) = true) := by
      by_cases e : xs.length = 64
      · exact .inr ⟨by simp [e], by simp; omega⟩
      · exact .inl (by simp; omega)
    clear h g hE hl hb
    rcases key with k1 | ⟨k1, k2⟩
    all_goals
      go_enter Try.func58, Try.ntmps58
      go_wp2
      go_ret2
      exact ⟨⟨_, rfl, World.ownsRow_nil _ _ _ _⟩, Below.refl _ _⟩
end Go.Proofs.Ytcieggaihelacaa
