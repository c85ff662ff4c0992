/- Layer 16's statements' own helpers: 64 times a number; what samples and residues come to; some of the chapter's examples. -/
import Derived.Test.YtcieggaihelacaaPm
set_option linter.unusedSimpArgs false
set_option linter.unusedVariables false
namespace Go.Proofs.Ytcieggaihelacaa
open Go.RowKit
set_option maxRecDepth 100000
theorem rep_stepx (x : Int) (n k : Nat) (hk : k < n) : (List.replicate k x ++ List.replicate (n - k) 0).set k x = List.replicate (k + 1) x ++ List.replicate (n - (k + 1)) 0 := by
  rw [List.set_append_right _ _ (by simp), List.length_replicate, Nat.sub_self, show n - k = (n - (k + 1)) + 1 by omega, List.replicate_succ, List.set_cons_zero, List.replicate_succ']
  simp
theorem same64_any (x : Int) (w : World) :
    Calls Try.prog 71 #[.int .u8 x] w fun e w' => (∃ g, e = .returned (.slice (some ⟨g, 0, none⟩) 64 64) ∧ w.heap.size ≤ g ∧ Pic w' g (List.replicate 64 x) []) ∧ Below w.heap.size w w' := by
  have hmk := make64
  have HZ := Lib.hid (pic_zero w 64)
  have HB := Lib.hid ((Below.refl w.heap.size w).alloc (Nat.le_refl _) (.cells (madeCells #[Value.int .u8 0] 64) 5))
  go_enter Try.func71, Try.ntmps71
  go_wp2
  go_loopw [4] (fun i wr => ∃ k : Nat, k ≤ 64 ∧ i = .int .i64 k ∧ Below w.heap.size w wr ∧ Pic wr w.heap.size (List.replicate k x ++ List.replicate (64 - k) 0) []) (fun i _ => 64 - (intOf i).toNat)
  case atStart => exact ⟨0, by omega, rfl, HB.out, by simpa using HZ.out⟩
  case round =>
    obtain ⟨k, hk, rfl, hb, hp⟩ := hrel
    have HP := Lib.hid hp
    have HBB := Lib.hid hb
    clear hp hb
    by_cases hlt : k < 64
    · have hkn : (k : Int) < 64 := by omega
      have hc := HP.out.cell (i := k) (by simp; omega)
      have hf := HP.out.free k
      generalize (List.replicate k x ++ List.replicate (64 - k) 0)[k]?.getD 0 = u at hc
      go_wp2
      go_roundw
      case rel => exact ⟨k + 1, by omega, by go_num, HBB.out.setCell (Nat.le_refl _) _, by rw [← rep_stepx x 64 k hlt]; exact HP.out.set (by simp; omega) _⟩
      case measure => simp [intOf]; omega
    · have e : k = 64 := by omega
      subst e
      go_wp2
      go_ret
      have hp := HP.out
      rw [Nat.sub_self, List.replicate_zero, List.append_nil] at hp
      exact ⟨⟨_, rfl, Nat.le_refl _, hp⟩, HBB.out⟩
/-- A block of numbers. -/
def PicI (w : World) (g : Nat) (xs : List Int) : Prop := w.heap[g]? = some (.cells (xs.map (Value.int .i64)).toArray 3 (0, 0))
theorem PicI.cell {w : World} {g : Nat} {xs : List Int} (h : PicI w g xs) {i : Nat} (hi : i < xs.length) : w.cell? ⟨g, i, none⟩ = some (.int .i64 (xs[i]?.getD 0)) := by
  rw [blk_cell h, List.getElem?_toArray, List.getElem?_map]
  simp [hi]
theorem PicI.set {w : World} {g : Nat} {xs : List Int} (h : PicI w g xs) (i : Nat) (y : Int) : PicI (w.setCell ⟨g, i, none⟩ (.int .i64 y)) g (xs.set i y) := by
  have := blk_set h i (.int .i64 y)
  unfold PicI
  rw [this, List.setIfInBounds_toArray, List.map_set]
theorem PicI.rd {w : World} {g : Nat} {xs : List Int} (h : PicI w g xs) (hl : xs.length ≤ 140737488351232) : Rd .i64 w (.slice (some ⟨g, 0, none⟩) xs.length xs.length) xs :=
  Or.inr ⟨g, 0, xs.length, rfl, blk_lt h, Nat.le_refl _, hl, fun i hi => by rw [Nat.zero_add]; exact h.cell hi⟩
theorem make64i (W : World) : (Instr.makeSlice 46 (.int .i64 64) (.int .i64 64)).run Try.prog W = .ok (.slice (some ⟨W.heap.size, 0, none⟩) 64 64) (W.alloc (.cells (madeCells #[Value.int .i64 0] 64) 3)) :=
  run_make_row' (P := Try.prog) 46 3 (.int .i64 0) 8 Try.underlying46 (by kernel_rfl) rfl .i64 .i64 64 (by decide) (by decide) W
theorem picI_zero (w : World) (n : Nat) : PicI (w.alloc (.cells (madeCells #[Value.int .i64 0] n) 3)) w.heap.size (List.replicate n 0) := by
  unfold PicI
  rw [World.alloc_heap_new, List.map_replicate, ← toList_madeCells_one]
theorem ints64_any (x : Int) (w : World) :
    Calls Try.prog 72 #[.int .i64 x] w fun e w' => (∃ g, e = .returned (.slice (some ⟨g, 0, none⟩) 64 64) ∧ w.heap.size ≤ g ∧ PicI w' g (List.replicate 64 x)) ∧ Below w.heap.size w w' := by
  have hmk := make64i
  have HZ := Lib.hid (picI_zero w 64)
  have HB := Lib.hid ((Below.refl w.heap.size w).alloc (Nat.le_refl _) (.cells (madeCells #[Value.int .i64 0] 64) 3))
  go_enter Try.func72, Try.ntmps72
  go_wp2
  go_loopw [4] (fun i wr => ∃ k : Nat, k ≤ 64 ∧ i = .int .i64 k ∧ Below w.heap.size w wr ∧ PicI wr w.heap.size (List.replicate k x ++ List.replicate (64 - k) 0)) (fun i _ => 64 - (intOf i).toNat)
  case atStart => exact ⟨0, by omega, rfl, HB.out, by simpa using HZ.out⟩
  case round =>
    obtain ⟨k, hk, rfl, hb, hp⟩ := hrel
    have HP := Lib.hid hp
    have HBB := Lib.hid hb
    clear hp hb
    by_cases hlt : k < 64
    · have hkn : (k : Int) < 64 := by omega
      have hc := HP.out.cell (i := k) (by simp; omega)
      have hf := blk_free HP.out k
      generalize (List.replicate k x ++ List.replicate (64 - k) 0)[k]?.getD 0 = u at hc
      go_wp2
      go_roundw
      case rel => exact ⟨k + 1, by omega, by go_num, HBB.out.setCell (Nat.le_refl _) _, by rw [← rep_stepx x 64 k hlt]; exact HP.out.set _ _⟩
      case measure => simp [intOf]; omega
    · have e : k = 64 := by omega
      subst e
      go_wp2
      go_ret
      have hp := HP.out
      rw [Nat.sub_self, List.replicate_zero, List.append_nil] at hp
      exact ⟨⟨_, rfl, Nat.le_refl _, hp⟩, HBB.out⟩
theorem rep_byt {x : Int} (h : 0 ≤ x ∧ x ≤ 255) (n : Nat) : byt (List.replicate n x) := fun y hy => by rw [List.eq_of_mem_replicate hy]; exact h
theorem rep_small {x : Int} (h : -1048576 ≤ x ∧ x ≤ 1048576) (n : Nat) : small (List.replicate n x) := fun y hy => by rw [List.eq_of_mem_replicate hy]; exact h
theorem addZ_rep (x y : Int) (n : Nat) : addZ (List.replicate n x) (List.replicate n y) = List.replicate n (clipS (x + y)) := by
  unfold addZ; rw [List.zipWith_replicate]; simp
theorem add_rep {x y : Int} (hy : -1048576 ≤ y ∧ y ≤ 1048576) : addE (List.replicate 64 x).length (List.replicate 64 y) = 0 ∧ addL (List.replicate 64 x) (List.replicate 64 y) = List.replicate 64 (clipS (x + y)) := by
  have h : addE (List.replicate 64 x).length (List.replicate 64 y) = 0 := by
    unfold addE; rw [if_pos (by simp), if_pos (rep_small hy 64)]
  exact ⟨h, by unfold addL; rw [if_pos h, addZ_rep]⟩
theorem adds_true (s r x : Int) (w : World) (hs : 0 ≤ s ∧ s ≤ 255) (hr : -1048576 ≤ r ∧ r ≤ 1048576) (hx : clipS (s + r) = x) :
    Calls Try.prog 88 #[.int .u8 s, .int .i64 r, .int .u8 x] w fun e w' => e = .returned (.bool true) ∧ Below w.heap.size w w' := by
  obtain ⟨h1, h2⟩ := add_rep (x := s) hr
  rw [hx] at h2
  have HA := Lib.hid (And.intro h1 h2)
  have HBS := Lib.hid (rep_byt hs 64)
  clear h1 h2 hx
  go_enter Try.func88, Try.ntmps88
  go_wp2_with (first
    | (go_at_call 25; refine (sameBytes_true _ _ (List.replicate 64 x) _ (HRB.out.below hb4) (by have h := hp4.rd (c := 64) (by simp) (by simp); rw [List.length_replicate] at h; exact h)).mono ?_; rintro e w' ⟨rfl, rfl⟩)
    | (go_at_call 58; refine (add_any _ _ (List.replicate 64 s) (List.replicate 64 r) _ (HR1.out.below hb2) HBS.out (by have h := hp2.rd (by simp); rw [List.length_replicate] at h; exact h)).mono ?_; rw [HA.out.1, HA.out.2, List.length_replicate]; rintro e w3 ⟨⟨u, rfl, hu⟩, hb3⟩; have hru := Rd.of_owns (xs := List.replicate 64 x) (by rw [List.length_replicate]; exact hu) (by simp); obtain ⟨ua, uc, rfl⟩ := hru.form; rw [List.length_replicate] at hru ⊢; have HRB := Lib.hid hru; have HB3 := Lib.hid (below_nxt HB2.out hb3); clear hu hru hb3)
    | (go_at_call 72; refine (ints64_any r _).mono ?_; rintro e w2 ⟨⟨g2, rfl, hg2, hp2⟩, hb2⟩; have HB2 := Lib.hid (below_nxt HB1.out hb2))
    | (go_at_call 71; (with_reducible refine (same64_any s w).mono ?_); rintro e w1 ⟨⟨g1, rfl, hg1, hp1⟩, hb1⟩; have hr1 := hp1.rd (c := 64) (by simp) (by simp); rw [List.length_replicate] at hr1; have HR1 := Lib.hid hr1; have HB1 := Lib.hid hb1; clear hp1 hr1 hb1)
    | (go_at_call 71; refine (same64_any x _).mono ?_; rintro e w4 ⟨⟨g4, rfl, hg4, hp4⟩, hb4⟩; have HB4 := Lib.hid (below_nxt HB3.out hb4)))
  go_ret
  exact ⟨rfl, HB4.out⟩
end Go.Proofs.Ytcieggaihelacaa
