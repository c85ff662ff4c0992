/- The contracts of the document's Add, and of both Flat. -/
import Derived.Test.YtcieggaihelacaaPb
import Derived.Test.YtcieggaihelacaaOpa
set_option linter.unusedSimpArgs false
set_option linter.unusedVariables false
namespace Go.Proofs.Ytcieggaihelacaa
open Go.RowKit
set_option maxRecDepth 100000
set_option maxHeartbeats 4000000 in
theorem radd_any (v u : Value) (xs ys : List Int) (w : World) (h : Rd .u8 w v xs) (hb : byt xs) (g : Rd .i64 w u ys) :
    Calls Try.prog 59 #[v, u] w fun e w' => (∃ r, e = .returned (.tuple #[r, .int .i64 (addE xs.length ys)]) ∧ w'.ownsRow w.heap.size 5 1 r (addL xs ys).length ((addL xs ys).map (Value.int .u8))) ∧ Below w.heap.size w w' := by
  have hwf : ∀ f, Fence.wide.fn f := fun _ => trivial
  have hwd : Fence.wide.depth = none := rfl
  by_cases hl : xs.length = 64 ∧ ys.length = 64
  · obtain ⟨yb, yo, yc, rfl, hyb, hyc, hyh⟩ := g.solid (by omega)
    obtain ⟨xb, xo, xc, rfl, hxb, hxc, hxh⟩ := h.solid (by omega)
    have hl1 := hl.1
    have hl2 := hl.2
    have HL := Lib.hid hl
    rw [hl2] at hyc
    rw [hl1] at hxc
    have HX := Lib.hid hxh
    have HY := Lib.hid hyh
    have HBY := Lib.hid hb
    by_cases hs : small ys
    · have hE : addE xs.length ys = 0 := by unfold addE; rw [if_pos hl, if_pos hs]
      have hLZ : addL xs ys = addZ xs ys := by unfold addL; rw [if_pos hE]
      have hzl : (addZ xs ys).length = 64 := by rw [addZ_len (by omega), hl1]
      rw [hE, hLZ, hzl, hl1, hl2]
      have HS := Lib.hid hs
      clear h g hb hyh hxh hl hE hLZ hzl hs hl1 hl2
      go_enter Try.func59, Try.ntmps59
      go_wp2
      go_loopw [6, 7] (fun v i wr => ∃ k : Nat, k ≤ 64 ∧ i = .int .i64 k ∧ wr.ownsRow w.heap.size 5 1 v k (((addZ xs ys).take k).map (Value.int .u8)) ∧ Below w.heap.size w wr ∧ ∀ j, j < k → -1048576 ≤ ys[j]?.getD 0 ∧ ys[j]?.getD 0 ≤ 1048576) (fun _ i _ => 64 - (intOf i).toNat)
      case atStart => exact ⟨0, by omega, rfl, World.ownsRow_nil _ _ _ _, Below.refl _ _, fun j hj => by omega⟩
      case round =>
        obtain ⟨k, hk, rfl, hown, hbel, hn⟩ := hrel

        have HN := Lib.hid hn
        clear hn
        by_cases hlt : k < 64
        · have hlt' : (k : Int) < 64 := by omega
          have hy := HY.out k (by rw [HL.out.2]; exact hlt)
          have hx := HX.out k (by rw [HL.out.1]; exact hlt)
          have bx := HBY.out.at k
          have hst := addZ_step (xs := xs) (ys := ys) (by rw [HL.out.1, HL.out.2]) k (by rw [HL.out.1]; exact hlt)
          obtain ⟨y, hyy⟩ : ∃ y, ys[k]?.getD 0 = y := ⟨_, rfl⟩
          obtain ⟨x, hxx⟩ : ∃ x, xs[k]?.getD 0 = x := ⟨_, rfl⟩
          rw [hyy] at hy hst
          rw [hxx] at hx bx hst
          have HYY := Lib.hid hyy
          have HS1 := Lib.hid hst
          have hy := (hbel.cell (p := ⟨yb, yo + k, none⟩) hyb).trans hy
          have hx := (hbel.cell (p := ⟨xb, xo + k, none⟩) hxb).trans hx
          have hsz := hbel.size
          have HBE := Lib.hid hbel
          clear hyy hxx hst hbel
          obtain ⟨h1, h2⟩ : -1048576 ≤ y ∧ y ≤ 1048576 := by
            have := HS.out.at (k := k) (by rw [HL.out.2]; exact hlt)
            rw [HYY.out] at this; exact this
          go_wp2
          refine wp_region_mix (fun w' => w'.cell? ⟨xb, xo + k, none⟩ = some (.int .u8 x) ∧ w'.cell? ⟨yb, yo + k, none⟩ = some (.int .i64 y)) [13, 14] [(0, true), (1, true), (2, true), (3, true), (4, true), (5, true), (6, true), (7, true), (8, true), (9, true), (10, true), (11, false), (12, false), (13, false), (14, false)] (by kernel_rfl) (by kernel_rfl) rfl (by kernel_rfl) ⟨hx, hy⟩ ?_
          iterate 11 (refine mix_q rfl rfl (fun w' hB => by obtain ⟨b1, b2⟩ := hB; go_simp; rfl) ?_; simp only [Act.put, List.setIfInBounds_toArray, List.set_cons_succ, List.set_cons_zero])
          simp (disch := omega) only [w64]
          refine mix_e rfl rfl ?_
          go_simp
          refine (callsIn_wide.2 (rclip_any _ _)).mono ?_
          rintro e w' ⟨rfl, rfl⟩
          refine ⟨⟨hx, hy⟩, ?_⟩
          have hx2 : (wr.alloc (Obj.cells #[.int .u8 (clipS (x + y))] 5)).drew.cell? ⟨xb, xo + k, none⟩ = some (.int .u8 x) := (World.cell?_alloc_lt wr _ _ (by show xb < _; omega)).trans hx
          have hy2 : (wr.alloc (Obj.cells #[.int .u8 (clipS (x + y))] 5)).drew.cell? ⟨yb, yo + k, none⟩ = some (.int .i64 y) := (World.cell?_alloc_lt wr _ _ (by show yb < _; omega)).trans hy
          refine mix_e rfl rfl ?_
          go_simp
          refine mix_e rfl rfl ?_
          clear hx hy hx2 hy2
          refine opIn_app1 Try.elByte rfl rfl (show (wr.alloc (Obj.cells #[.int .u8 (clipS (x + y))] 5)).drew.ownsRow w.heap.size 5 1 u6 k (((addZ xs ys).take k).map (Value.int .u8)) from hown.alloc _) (show (wr.alloc (Obj.cells #[.int .u8 (clipS (x + y))] 5)).drew.cell? _ = _ from cell_alloc1 _ _ _) rfl (by omega) (by simp; omega) ?_
          intro g1 c1 w1 hown3 hgrow3 _
          refine ⟨fun h => absurd h (by decide), ?_⟩
          refine mix_e rfl rfl ?_
          go_simp
          refine mix_nil ?_
          go_wp2
          go_roundw
          case rel =>
            refine ⟨k + 1, by omega, by go_num, ?_, ?_, ?_⟩
            · rw [HS1.out, List.map_append]; exact hown3
            · exact (below_drewN (HBE.out.alloc HBE.out.size _) 1).grown hgrow3 (by simp; omega) (fun j e => (hown.lt j e).1)
            · intro j hj
              by_cases e : j = k
              · subst e; rw [HYY.out]; exact ⟨h1, h2⟩
              · exact HN.out j (by omega)
          case measure => simp [intOf]; omega
        · have e : k = 64 := by omega
          subst e
          have hzt : (addZ xs ys).take 64 = addZ xs ys := List.take_of_length_le (by rw [addZ_len (by rw [HL.out.1, HL.out.2]), HL.out.1]; omega)
          rw [hzt] at hown
          clear hzt
          go_wp2
          go_ret2
          exact ⟨⟨_, rfl, hown⟩, hbel⟩
    · have hE : addE xs.length ys = 3 := by unfold addE; rw [if_pos hl, if_neg hs]
      rw [addL_none (by rw [hE]; decide), hE, hl1, hl2]
      have HS := Lib.hid hs
      clear h g hb hyh hxh hl hE hs hl1 hl2
      go_enter Try.func59, Try.ntmps59
      go_wp2
      go_loopw [6, 7] (fun v i wr => ∃ k : Nat, k ≤ 64 ∧ i = .int .i64 k ∧ wr.ownsRow w.heap.size 5 1 v k (((addZ xs ys).take k).map (Value.int .u8)) ∧ Below w.heap.size w wr ∧ ∀ j, j < k → -1048576 ≤ ys[j]?.getD 0 ∧ ys[j]?.getD 0 ≤ 1048576) (fun _ i _ => 64 - (intOf i).toNat)
      case atStart => exact ⟨0, by omega, rfl, World.ownsRow_nil _ _ _ _, Below.refl _ _, fun j hj => by omega⟩
      case round =>
        obtain ⟨k, hk, rfl, hown, hbel, hn⟩ := hrel

        have HN := Lib.hid hn
        clear hn
        by_cases hlt : k < 64
        · have hlt' : (k : Int) < 64 := by omega
          have hy := HY.out k (by rw [HL.out.2]; exact hlt)
          have hx := HX.out k (by rw [HL.out.1]; exact hlt)
          have bx := HBY.out.at k
          have hst := addZ_step (xs := xs) (ys := ys) (by rw [HL.out.1, HL.out.2]) k (by rw [HL.out.1]; exact hlt)
          obtain ⟨y, hyy⟩ : ∃ y, ys[k]?.getD 0 = y := ⟨_, rfl⟩
          obtain ⟨x, hxx⟩ : ∃ x, xs[k]?.getD 0 = x := ⟨_, rfl⟩
          rw [hyy] at hy hst
          rw [hxx] at hx bx hst
          have HYY := Lib.hid hyy
          have HS1 := Lib.hid hst
          have hy := (hbel.cell (p := ⟨yb, yo + k, none⟩) hyb).trans hy
          have hx := (hbel.cell (p := ⟨xb, xo + k, none⟩) hxb).trans hx
          have hsz := hbel.size
          have HBE := Lib.hid hbel
          clear hyy hxx hst hbel
          rcases (show y < -1048576 ∨ (-1048576 ≤ y ∧ 1048576 < y) ∨ (-1048576 ≤ y ∧ y ≤ 1048576) by omega) with h1 | ⟨h1, h2⟩ | ⟨h1, h2⟩
          · go_wp2
            go_ret2
            exact ⟨⟨_, rfl, World.ownsRow_nil _ _ _ _⟩, HBE.out⟩
          · go_wp2
            go_ret2
            exact ⟨⟨_, rfl, World.ownsRow_nil _ _ _ _⟩, HBE.out⟩
          · skip
            go_wp2
            refine wp_region_mix (fun w' => w'.cell? ⟨xb, xo + k, none⟩ = some (.int .u8 x) ∧ w'.cell? ⟨yb, yo + k, none⟩ = some (.int .i64 y)) [13, 14] [(0, true), (1, true), (2, true), (3, true), (4, true), (5, true), (6, true), (7, true), (8, true), (9, true), (10, true), (11, false), (12, false), (13, false), (14, false)] (by kernel_rfl) (by kernel_rfl) rfl (by kernel_rfl) ⟨hx, hy⟩ ?_
            iterate 11 (refine mix_q rfl rfl (fun w' hB => by obtain ⟨b1, b2⟩ := hB; go_simp; rfl) ?_; simp only [Act.put, List.setIfInBounds_toArray, List.set_cons_succ, List.set_cons_zero])
            simp (disch := omega) only [w64]
            refine mix_e rfl rfl ?_
            go_simp
            refine (callsIn_wide.2 (rclip_any _ _)).mono ?_
            rintro e w' ⟨rfl, rfl⟩
            refine ⟨⟨hx, hy⟩, ?_⟩
            have hx2 : (wr.alloc (Obj.cells #[.int .u8 (clipS (x + y))] 5)).drew.cell? ⟨xb, xo + k, none⟩ = some (.int .u8 x) := (World.cell?_alloc_lt wr _ _ (by show xb < _; omega)).trans hx
            have hy2 : (wr.alloc (Obj.cells #[.int .u8 (clipS (x + y))] 5)).drew.cell? ⟨yb, yo + k, none⟩ = some (.int .i64 y) := (World.cell?_alloc_lt wr _ _ (by show yb < _; omega)).trans hy
            refine mix_e rfl rfl ?_
            go_simp
            refine mix_e rfl rfl ?_
            clear hx hy hx2 hy2
            refine opIn_app1 Try.elByte rfl rfl (show (wr.alloc (Obj.cells #[.int .u8 (clipS (x + y))] 5)).drew.ownsRow w.heap.size 5 1 u6 k (((addZ xs ys).take k).map (Value.int .u8)) from hown.alloc _) (show (wr.alloc (Obj.cells #[.int .u8 (clipS (x + y))] 5)).drew.cell? _ = _ from cell_alloc1 _ _ _) rfl (by omega) (by simp; omega) ?_
            intro g1 c1 w1 hown3 hgrow3 _
            refine ⟨fun h => absurd h (by decide), ?_⟩
            refine mix_e rfl rfl ?_
            go_simp
            refine mix_nil ?_
            go_wp2
            go_roundw
            case rel =>
              refine ⟨k + 1, by omega, by go_num, ?_, ?_, ?_⟩
              · rw [HS1.out, List.map_append]; exact hown3
              · exact (below_drewN (HBE.out.alloc HBE.out.size _) 1).grown hgrow3 (by simp; omega) (fun j e => (hown.lt j e).1)
              · intro j hj
                by_cases e : j = k
                · subst e; rw [HYY.out]; exact ⟨h1, h2⟩
                · exact HN.out j (by omega)
            case measure => simp [intOf]; omega
        · exact absurd (small_of (ys := ys) (fun j hj => HN.out j (by rw [HL.out.2] at hj; omega))) HS.out
  · have hE : addE xs.length ys = 2 := by unfold addE; rw [if_neg hl]
    rw [addL_none (by rw [hE]; decide), hE]
    have lx := h.len
    have ly := g.len
    obtain ⟨xa, xc, rfl⟩ := h.form
    obtain ⟨ya, yc, rfl⟩ := g.form
    have key : ((xs.length : Int) != 64) = true ∨ (((xs.length : Int) != 64) = false ∧ ((ys.length : Int) != 64) = true) := by
      by_cases e : xs.length = 64
      · exact .inr ⟨by simp [e], by simp; omega⟩
      · exact .inl (by simp; omega)
    clear h g hE hl hb
    rcases key with k1 | ⟨k1, k2⟩
    all_goals
      go_enter Try.func59, Try.ntmps59
      go_wp2
      go_ret2
      exact ⟨⟨_, rfl, World.ownsRow_nil _ _ _ _⟩, Below.refl _ _⟩
def zero64 : List Int := List.replicate 64 0
theorem zero64_rd (w : World) : Rd .u8 (w.alloc (.cells (madeCells #[Value.int .u8 0] 64) 5)) (.slice (some ⟨w.heap.size, 0, none⟩) 64 64) zero64 := by
  have h := (pic_zero w 64).rd (c := 64) (by decide) (by decide)
  rw [List.length_replicate] at h
  exact h
theorem zero64_byt : byt zero64 := fun x hx => by rw [List.eq_of_mem_replicate hx]; decide
theorem make64 (W : World) : (Instr.makeSlice 24 (.int .i64 64) (.int .i64 64)).run Try.prog W = .ok (.slice (some ⟨W.heap.size, 0, none⟩) 64 64) (W.alloc (.cells (madeCells #[Value.int .u8 0] 64) 5)) :=
  run_make_row' (P := Try.prog) 24 5 (.int .u8 0) 1 Try.underlying24 (by kernel_rfl) rfl .i64 .i64 64 (by decide) (by decide) W
theorem flat_any (u : Value) (ys : List Int) (w : World) (g : Rd .i64 w u ys) :
    Calls Try.prog 60 #[u] w fun e w' => (∃ r, e = .returned (.tuple #[r, .int .i64 (addE 64 ys)]) ∧ w'.ownsRow w.heap.size 5 1 r (addL zero64 ys).length ((addL zero64 ys).map (Value.int .u8))) ∧ Below w.heap.size w w' := by
  have hmk := make64
  have hB := Lib.hid ((Below.refl w.heap.size w).alloc (Nat.le_refl _) (.cells (madeCells #[Value.int .u8 0] 64) 5))
  have hg := Lib.hid g
  clear g
  go_enter Try.func60, Try.ntmps60
  go_wp2_with (go_at_call 58; refine (add_any _ u zero64 ys _ (zero64_rd w) zero64_byt (hg.out.alloc _)).mono ?_; rw [show zero64.length = 64 from rfl]; rintro e w1 ⟨⟨r, rfl, hown⟩, hb1⟩)
  go_ret2
  exact ⟨⟨_, rfl, ⟨hown.1, hown.2.imp id (fun ⟨g, cap, cur, h1, h2, h3⟩ => ⟨g, cap, cur, h1, by simp at h2; omega, h3⟩)⟩⟩, below_nxt hB.out hb1⟩
theorem rflat_any (u : Value) (ys : List Int) (w : World) (g : Rd .i64 w u ys) :
    Calls Try.prog 61 #[u] w fun e w' => (∃ r, e = .returned (.tuple #[r, .int .i64 (addE 64 ys)]) ∧ w'.ownsRow w.heap.size 5 1 r (addL zero64 ys).length ((addL zero64 ys).map (Value.int .u8))) ∧ Below w.heap.size w w' := by
  have hmk := make64
  have hB := Lib.hid ((Below.refl w.heap.size w).alloc (Nat.le_refl _) (.cells (madeCells #[Value.int .u8 0] 64) 5))
  have hg := Lib.hid g
  clear g
  go_enter Try.func61, Try.ntmps61
  go_wp2_with (go_at_call 59; refine (radd_any _ u zero64 ys _ (zero64_rd w) zero64_byt (hg.out.alloc _)).mono ?_; rw [show zero64.length = 64 from rfl]; rintro e w1 ⟨⟨r, rfl, hown⟩, hb1⟩)
  go_ret2
  exact ⟨⟨_, rfl, ⟨hown.1, hown.2.imp id (fun ⟨g, cap, cur, h1, h2, h3⟩ => ⟨g, cap, cur, h1, by simp at h2; omega, h3⟩)⟩⟩, below_nxt hB.out hb1⟩
end Go.Proofs.Ytcieggaihelacaa
