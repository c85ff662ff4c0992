/- The contracts of the document's Add, and of both Flat. -/
import Derived.Test.YtcieggaihelacaaBth
import Derived.Laws.CopyOwn
set_option linter.unusedSimpArgs false
set_option linter.unusedVariables false
namespace Go.Proofs.Ytcieggaihelacaa
open Go.RowKit
set_option maxRecDepth 100000
set_option maxHeartbeats 4000000 in
theorem radd_any (v u : Value) (xs ys : List Int) (w : World) (h : Rd .u8 w v xs) (hb : byt xs) (g : Rd .i64 w u ys) :
    Calls Try.prog 59 #[v, u] w fun e w' => (∃ r, e = .returned (.tuple #[r, .int .i64 (addE xs.length ys)]) ∧ w'.ownsRow w.heap.size 5 1 r (addL xs ys).length ((addL xs ys).map (Value.int .u8))) ∧ Below w.heap.size w w' := by
  have hwf : ∀ f, Fence.wide.fn f := fun _ => trivial
  have hwd : Fence.wide.depth = none := rfl
  by_cases hl : xs.length = 64 ∧ ys.length = 64
  · obtain ⟨yb, yo, yc, rfl, hyb, hyc, hyh⟩ := g.solid (by omega)
    obtain ⟨xb, xo, xc, rfl, hxb, hxc, hxh⟩ := h.solid (by omega)
    have hl1 := hl.1
    have hl2 := hl.2
    have HL := Lib.hid hl
    rw [hl2] at hyc
    rw [hl1] at hxc
    have HX := Lib.hid hxh
    have HY := Lib.hid hyh
    have HBY := Lib.hid hb
    by_cases hs : small ys
    · have hE : addE xs.length ys = 0 := by unfold addE; rw [if_pos hl, if_pos hs]
      have hLZ : addL xs ys = addZ xs ys := by unfold addL; rw [if_pos hE]
      have hzl : (addZ xs ys).length = 64 := by rw [addZ_len (by omega), hl1]
      rw [hE, hLZ, hzl, hl1, hl2]
      have HS := Lib.hid hs
      clear h g hb hyh hxh hl hE hLZ hzl hs hl1 hl2
      go_enter Try.func59, Try.ntmps59
      go_wp2
      go_loopw [6, 7] (fun v i wr => ∃ k : Nat, k ≤ 64 ∧ i = .int .i64 k ∧ wr.ownsRow w.heap.size 5 1 v k (((addZ xs ys).take k).map (Value.int .u8)) ∧ Below w.heap.size w wr ∧ ∀ j, j < k → -1048576 ≤ ys[j]?.getD 0 ∧ ys[j]?.getD 0 ≤ 1048576) (fun _ i _ => 64 - (intOf i).toNat)
      case atStart => exact ⟨0, by omega, rfl, World.ownsRow_nil _ _ _ _, Below.refl _ _, fun j hj => by omega⟩
      case round =>
        obtain ⟨k, hk, rfl, hown, hbel, hn⟩ := hrel

        have HN := Lib.hid hn
        clear hn
        by_cases hlt : k < 64
        · have hlt' : (k : Int) < 64 := by omega
          have hy := HY.out k (by rw [HL.out.2]; exact hlt)
          have hx := HX.out k (by rw [HL.out.1]; exact hlt)
          have bx := HBY.out.at k
          have hst := addZ_step (xs := xs) (ys := ys) (by rw [HL.out.1, HL.out.2]) k (by rw [HL.out.1]; exact hlt)
          obtain ⟨y, hyy⟩ : ∃ y, ys[k]?.getD 0 = y := ⟨_, rfl⟩
          obtain ⟨x, hxx⟩ : ∃ x, xs[k]?.getD 0 = x := ⟨_, rfl⟩
          rw [hyy] at hy hst
          rw [hxx] at hx bx hst
          have HYY := Lib.hid hyy
          have HS1 := Lib.hid hst
          have hy := (hbel.cell (p := ⟨yb, yo + k, none⟩) hyb).trans hy
          have hx := (hbel.cell (p := ⟨xb, xo + k, none⟩) hxb).trans hx
          have hsz := hbel.size
          have HBE := Lib.hid hbel
          clear hyy hxx hst hbel
          obtain ⟨h1, h2⟩ : -1048576 ≤ y ∧ y ≤ 1048576 := by
            have := HS.out.at (k := k) (by rw [HL.out.2]; exact hlt)
            rw [HYY.out] at this; exact this
          go_wp2
          refine wp_region_mix (fun w' => w'.cell? ⟨xb, xo + k, none⟩ = some (.int .u8 x) ∧ w'.cell? ⟨yb, yo + k, none⟩ = some (.int .i64 y)) [13, 14] [(0, true), (1, true), (2, true), (3, true), (4, true), (5, true), (6, true), (7, true), (8, true), (9, true), (10, true), (11, false), (12, false), (13, false), (14, false)] (by kernel_rfl) (by kernel_rfl) rfl (by kernel_rfl) ⟨hx, hy⟩ ?_
          iterate 11 (refine mix_q rfl rfl (fun w' hB => by obtain ⟨b1, b2⟩ := hB; go_simp; rfl) ?_; simp only [Act.put, List.setIfInBounds_toArray, List.set_cons_succ, List.set_cons_zero])
          simp (disch := omega) only [w64]
          refine mix_e rfl rfl ?_
          go_simp
          refine (callsIn_wide.2 (rclip_any _ _)).mono ?_
          rintro e w' ⟨rfl, rfl⟩
          refine ⟨⟨hx, hy⟩, ?_⟩
          have hx2 : (wr.alloc (Obj.cells #[.int .u8 (clipS (x + y))] 5)).drew.cell? ⟨xb, xo + k, none⟩ = some (.int .u8 x) := (World.cell?_alloc_lt wr _ _ (by show xb < _; omega)).trans hx
          have hy2 : (wr.alloc (Obj.cells #[.int .u8 (clipS (x + y))] 5)).drew.cell? ⟨yb, yo + k, none⟩ = some (.int .i64 y) := (World.cell?_alloc_lt wr _ _ (by show yb < _; omega)).trans hy
          refine mix_e rfl rfl ?_
          go_simp
          refine mix_e rfl rfl ?_
          clear hx hy hx2 hy2
          refine opIn_app1 Try.elByte rfl rfl (show (wr.alloc (Obj.cells #[.int .u8 (clipS (x + y))] 5)).drew.ownsRow w.heap.size 5 1 u6 k (((addZ xs ys).take k).map (Value.int .u8)) from hown.alloc _) (show (wr.alloc (Obj.cells #[.int .u8 (clipS (x + y))] 5)).drew.cell? _ = _ from cell_alloc1 _ _ _) rfl (by omega) (by simp; omega) ?_
          intro g1 c1 w1 hown3 hgrow3 _
          refine ⟨fun h => absurd h (by decide), ?_⟩
          refine mix_e rfl rfl ?_
          go_simp
          refine mix_nil ?_
          go_wp2
          go_roundw
          case rel =>
            refine ⟨k + 1, by omega, by go_num, ?_, ?_, ?_⟩
            · rw [HS1.out, List.map_append]; exact hown3
            · exact (below_drewN (HBE.out.alloc HBE.out.size _) 1).grown hgrow3 (by simp; omega) (fun j e => (hown.lt j e).1)
            · intro j hj
              by_cases e : j = k
              · subst e; rw [HYY.out]; exact ⟨h1, h2⟩
              · exact HN.out j (by omega)
          case measure => simp [intOf]; omega
        · have e : k = 64 := by omega
          subst e
          have hzt : (addZ xs ys).take 64 = addZ xs ys := List.take_of_length_le (by rw [addZ_len (by rw [HL.out.1, HL.out.2]), HL.out.1]; omega)
          rw [hzt] at hown
          clear hzt
          go_wp2
          go_ret2
          exact ⟨⟨_, rfl, hown⟩, hbel⟩
    · have hE : addE xs.length ys = 3 := by unfold addE; rw [if_pos hl, if_neg hs]
      rw [addL_none (by rw [hE]; decide), hE, hl1, hl2]
      have HS := Lib.hid hs
      clear h g hb hyh hxh hl hE hs hl1 hl2
      go_enter Try.func59, Try.ntmps59
      go_wp2
      go_loopw [6, 7] (fun v i wr => ∃ k : Nat, k ≤ 64 ∧ i = .int .i64 k ∧ wr.ownsRow w.heap.size 5 1 v k (((addZ xs ys).take k).map (Value.int .u8)) ∧ Below w.heap.size w wr ∧ ∀ j, j < k → -1048576 ≤ ys[j]?.getD 0 ∧ ys[j]?.getD 0 ≤ 1048576) (fun _ i _ => 64 - (intOf i).toNat)
      case atStart => exact ⟨0, by omega, rfl, World.ownsRow_nil _ _ _ _, Below.refl _ _, fun j hj => by omega⟩
      case round =>
        obtain ⟨k, hk, rfl, hown, hbel, hn⟩ := hrel

        have HN := Lib.hid hn
        clear hn
        by_cases hlt : k < 64
        · have hlt' : (k : Int) < 64 := by omega
          have hy := HY.out k (by rw [HL.out.2]; exact hlt)
          have hx := HX.out k (by rw [HL.out.1]; exact hlt)
          have bx := HBY.out.at k
          have hst := addZ_step (xs := xs) (ys := ys) (by rw [HL.out.1, HL.out.2]) k (by rw [HL.out.1]; exact hlt)
          obtain ⟨y, hyy⟩ : ∃ y, ys[k]?.getD 0 = y := ⟨_, rfl⟩
          obtain ⟨x, hxx⟩ : ∃ x, xs[k]?.getD 0 = x := ⟨_, rfl⟩
          rw [hyy] at hy hst
          rw [hxx] at hx bx hst
          have HYY := Lib.hid hyy
          have HS1 := Lib.hid hst
          have hy := (hbel.cell (p := ⟨yb, yo + k, none⟩) hyb).trans hy
          have hx := (hbel.cell (p := ⟨xb, xo + k, none⟩) hxb).trans hx
          have hsz := hbel.size
          have HBE := Lib.hid hbel
          clear hyy hxx hst hbel
          rcases (show y < -1048576 ∨ (-1048576 ≤ y ∧ 1048576 < y) ∨ (-1048576 ≤ y ∧ y ≤ 1048576) by omega) with h1 | ⟨h1, h2⟩ | ⟨h1, h2⟩
          · go_wp2
            go_ret2
            exact ⟨⟨_, rfl, World.ownsRow_nil _ _ _ _⟩, HBE.out⟩
          · go_wp2
            go_ret2
            exact ⟨⟨_, rfl, World.ownsRow_nil _ _ _ _⟩, HBE.out⟩
          · skip
            go_wp2
            refine wp_region_mix (fun w' => w'.cell? ⟨xb, xo + k, none⟩ = some (.int .u8 x) ∧ w'.cell? ⟨yb, yo + k, none⟩ = some (.int .i64 y)) [13, 14] [(0, true), (1, true), (2, true), (3, true), (4, true), (5, true), (6, true), (7, true), (8, true), (9, true), (10, true), (11, false), (12, false), (13, false), (14, false)] (by kernel_rfl) (by kernel_rfl) rfl (by kernel_rfl) ⟨hx, hy⟩ ?_
            iterate 11 (refine mix_q rfl rfl (fun w' hB => by obtain ⟨b1, b2⟩ := hB; go_simp; rfl) ?_; simp only [Act.put, List.setIfInBounds_toArray, List.set_cons_succ, List.set_cons_zero])
            simp (disch := omega) only [w64]
            refine mix_e rfl rfl ?_
            go_simp
            refine (callsIn_wide.2 (rclip_any _ _)).mono ?_
            rintro e w' ⟨rfl, rfl⟩
            refine ⟨⟨hx, hy⟩, ?_⟩
            have hx2 : (wr.alloc (Obj.cells #[.int .u8 (clipS (x + y))] 5)).drew.cell? ⟨xb, xo + k, none⟩ = some (.int .u8 x) := (World.cell?_alloc_lt wr _ _ (by show xb < _; omega)).trans hx
            have hy2 : (wr.alloc (Obj.cells #[.int .u8 (clipS (x + y))] 5)).drew.cell? ⟨yb, yo + k, none⟩ = some (.int .i64 y) := (World.cell?_alloc_lt wr _ _ (by show yb < _; omega)).trans hy
            refine mix_e rfl rfl ?_
            go_simp
            refine mix_e rfl rfl ?_
            clear hx hy hx2 hy2
            refine opIn_app1 Try.elByte rfl rfl (show (wr.alloc (Obj.cells #[.int .u8 (clipS (x + y))] 5)).drew.ownsRow w.heap.size 5 1 u6 k (((addZ xs ys).take k).map (Value.int .u8)) from hown.alloc _) (show (wr.alloc (Obj.cells #[.int .u8 (clipS (x + y))] 5)).drew.cell? _ = _ from cell_alloc1 _ _ _) rfl (by omega) (by simp; omega) ?_
            intro g1 c1 w1 hown3 hgrow3 _
            refine ⟨fun h => absurd h (by decide), ?_⟩
            refine mix_e rfl rfl ?_
            go_simp
            refine mix_nil ?_
            go_wp2
            go_roundw
            case rel =>
              refine ⟨k + 1, by omega, by go_num, ?_, ?_, ?_⟩
              · rw [HS1.out, List.map_append]; exact hown3
              · exact (below_drewN (HBE.out.alloc HBE.out.size _) 1).grown hgrow3 (by simp; omega) (fun j e => (hown.lt j e).1)
              · intro j hj
                by_cases e : j = k
                · subst e; rw [HYY.out]; exact ⟨h1, h2⟩
                · exact HN.out j (by omega)
            case measure => simp [intOf]; omega
        · exact absurd (small_of (ys := ys) (fun j hj => HN.out j (by rw [HL.out.2] at hj; omega))) HS.out
  · have hE : addE xs.length ys = 2 := by unfold addE; rw [if_neg hl]
    rw [addL_none (by rw [hE]; decide), hE]
    have lx := h.len
    have ly := g.len
    obtain ⟨xa, xc, rfl⟩ := h.form
    obtain ⟨ya, yc, rfl⟩ := g.form
    have key : ((xs.length : Int) != 64) = true ∨ (((xs.length : Int) != 64) = false ∧ ((ys.length : Int) != 64) = true) := by
      by_cases e : xs.length = 64
      · exact .inr ⟨by simp [e], by simp; omega⟩
      · exact .inl (by simp; omega)
    clear h g hE hl hb
    rcases key with k1 | ⟨k1, k2⟩
    all_goals
      go_enter Try.func59, Try.ntmps59
      go_wp2
      go_ret2
      exact ⟨⟨_, rfl, World.ownsRow_nil _ _ _ _⟩, Below.refl _ _⟩
def zero64 : List Int := List.replicate 64 0
theorem zero64_rd (w : World) : Rd .u8 (w.alloc (.cells (madeCells #[Value.int .u8 0] 64) 5)) (.slice (some ⟨w.heap.size, 0, none⟩) 64 64) zero64 := by
  have h := (pic_zero w 64).rd (c := 64) (by decide) (by decide)
  rw [List.length_replicate] at h
  exact h
theorem zero64_byt : byt zero64 := fun x hx => by rw [List.eq_of_mem_replicate hx]; decide
theorem make64 (W : World) : (Instr.makeSlice 24 (.int .i64 64) (.int .i64 64)).run Try.prog W = .ok (.slice (some ⟨W.heap.size, 0, none⟩) 64 64) (W.alloc (.cells (madeCells #[Value.int .u8 0] 64) 5)) :=
  run_make_row' (P := Try.prog) 24 5 (.int .u8 0) 1 Try.underlying24 (by kernel_rfl) rfl .i64 .i64 64 (by decide) (by decide) W
theorem flat_any (u : Value) (ys : List Int) (w : World) (g : Rd .i64 w u ys) :
    Calls Try.prog 60 #[u] w fun e w' => (∃ r, e = .returned (.tuple #[r, .int .i64 (addE 64 ys)]) ∧ w'.ownsRow w.heap.size 5 1 r (addL zero64 ys).length ((addL zero64 ys).map (Value.int .u8))) ∧ Below w.heap.size w w' := by
  have hmk := make64
  have hB := Lib.hid ((Below.refl w.heap.size w).alloc (Nat.le_refl _) (.cells (madeCells #[Value.int .u8 0] 64) 5))
  have hg := Lib.hid g
  clear g
  go_enter Try.func60, Try.ntmps60
  go_wp2_with (go_at_call 58; refine (add_any _ u zero64 ys _ (zero64_rd w) zero64_byt (hg.out.alloc _)).mono ?_; rw [show zero64.length = 64 from rfl]; rintro e w1 ⟨⟨r, rfl, hown⟩, hb1⟩)
  go_ret2
  exact ⟨⟨_, rfl, ⟨hown.1, hown.2.imp id (fun ⟨g, cap, cur, h1, h2, h3⟩ => ⟨g, cap, cur, h1, by simp at h2; omega, h3⟩)⟩⟩, below_nxt hB.out hb1⟩
theorem rflat_any (u : Value) (ys : List Int) (w : World) (g : Rd .i64 w u ys) :
    Calls Try.prog 61 #[u] w fun e w' => (∃ r, e = .returned (.tuple #[r, .int .i64 (addE 64 ys)]) ∧ w'.ownsRow w.heap.size 5 1 r (addL zero64 ys).length ((addL zero64 ys).map (Value.int .u8))) ∧ Below w.heap.size w w' := by
  have hmk := make64
  have hB := Lib.hid ((Below.refl w.heap.size w).alloc (Nat.le_refl _) (.cells (madeCells #[Value.int .u8 0] 64) 5))
  have hg := Lib.hid g
  clear g
  go_enter Try.func61, Try.ntmps61
  go_wp2_with (go_at_call 59; refine (radd_any _ u zero64 ys _ (zero64_rd w) zero64_byt (hg.out.alloc _)).mono ?_; rw [show zero64.length = 64 from rfl]; rintro e w1 ⟨⟨r, rfl, hown⟩, hb1⟩)
  go_ret2
  exact ⟨⟨_, rfl, ⟨hown.1, hown.2.imp id (fun ⟨g, cap, cur, h1, h2, h3⟩ => ⟨g, cap, cur, h1, by simp at h2; omega, h3⟩)⟩⟩, below_nxt hB.out hb1⟩
end Go.Proofs.Ytcieggaihelacaa
/- The paint layer's rows: where a spot's picture is refused, the iterator over a block's rows. -/
set_option linter.unusedSimpArgs false
set_option linter.unusedVariables false
namespace Go.Proofs.Ytcieggaihelacaa
open Go.RowKit Go.Shelf
set_option maxRecDepth 100000
attribute [local go_sem] Oper.semAt_some
theorem pcorner_any (f g a : Int) (w : World) (ha : -9223372036854775808 ≤ a) (ha2 : a ≤ 9223372036854775807) :
    Calls Try.prog 89 #[.agg #[.int .i64 f, .int .i64 g, .int .i64 a]] w fun e w' => e = .returned (.tuple #[.int .i64 (if cornE f g a = 0 then bytesS f else 0), .int .i64 (cornE f g a)]) ∧ Below w.heap.size w w' := by
  have hB := (Below.refl w.heap.size w).alloc (Nat.le_refl _) (Obj.cells #[.int .i64 f, .int .i64 g, .int .i64 a] 23)
  have hL := (Lies.nil w).alloc (Obj.cells #[.int .i64 f, .int .i64 g, .int .i64 a] 23)
  have HB := Lib.hid hB
  have HL := Lib.hid hL
  clear hB hL
  by_cases hc : cornE f g a = 0
  · have hf := (corn_ok hc).1
    have he : fmtE f = 0 := by rcases hf with rfl | rfl <;> rfl
    rw [if_pos hc, hc]
    have HC := Lib.hid hc
    have HE := Lib.hid he
    clear hc he
    go_enter Try.func89, Try.ntmps89
    go_wp2_with (first
      | (go_at_call 46; refine (Corner_any _ _ _ _ ha ha2).mono ?_; rw [HC.out]; rintro e w1 ⟨rfl, hb1⟩; have HB1 := Lib.hid (below_nxt HB.out hb1); have k0 := (HL.out.next hb1).head; have c0 := blk_cell k0 0; have c1 := blk_cell k0 1; have c2 := blk_cell k0 2; simp only [List.getElem?_toArray, List.getElem?_cons_zero, List.getElem?_cons_succ] at c0 c1 c2; clear k0 hb1)
      | (go_at_call 37; refine (size_any _ _).mono ?_; rw [HE.out]; rintro e w' ⟨rfl, rfl⟩))
    go_ret2
    exact ⟨rfl, HB1.out⟩
  · have ht : (cornE f g a != 0) = true := by simpa using hc
    rw [if_neg hc]
    clear hc
    go_enter Try.func89, Try.ntmps89
    go_wp2_with (first
      | (go_at_call 46; refine (Corner_any _ _ _ _ ha ha2).mono ?_; rintro e w1 ⟨rfl, hb1⟩; have HB1 := Lib.hid (below_nxt HB.out hb1); clear hb1))
    go_ret2
    exact ⟨rfl, HB1.out⟩
theorem prows_any (va : Option Addr) (n c : Nat) (a s : Int) (w : World) :
    Calls Try.prog 90 #[.slice va n c, .int .i64 a, .int .i64 s] w fun e w' => e = .returned (.func (.func 101) #[] #[.pointer (some ⟨w.heap.size, 0, none⟩), .pointer (some ⟨w.heap.size + 1, 0, none⟩), .pointer (some ⟨w.heap.size + 1 + 1, 0, none⟩)]) ∧ w' = ((w.alloc (.cells #[.slice va n c] 24)).alloc (.cells #[.int .i64 a] 3)).alloc (.cells #[.int .i64 s] 3) := by
  go_enter Try.func90, Try.ntmps90
  go_wp2
  go_ret
  exact ⟨rfl, rfl⟩
/-- The row k of a block: its number, its eight places. -/
def prowV (gb ob c : Nat) (a s : Int) (k : Nat) : Array Value := #[.int .i64 k, .slice (some ⟨gb, ob + (a + (k : Int) * s).toNat, none⟩) 8 (c - (a + (k : Int) * s).toNat)]
def prowA (gb ob c : Nat) (a s : Int) : List (Array Value) := (List.range 8).map (prowV gb ob c a s)
theorem prowA_at (gb ob c : Nat) (a s : Int) (k : Nat) (h : k < 8) : (prowA gb ob c a s)[k]? = some (prowV gb ob c a s k) := by
  unfold prowA; rw [List.getElem?_map, List.getElem?_range h]; rfl
theorem prowA_len (gb ob c : Nat) (a s : Int) : (prowA gb ob c a s).length = 8 := by unfold prowA; simp
theorem prowA_inv {gb ob c : Nat} {a s : Int} {k : Nat} {x : Array Value} (h : (prowA gb ob c a s)[k]? = some x) : k < 8 ∧ x = prowV gb ob c a s k := by
  rcases Nat.lt_or_ge k 8 with h' | h'
  · exact ⟨h', Option.some.inj (h.symm.trans (prowA_at gb ob c a s k h'))⟩
  · rw [List.getElem?_eq_none (by rw [prowA_len]; omega)] at h; cases h
set_option maxHeartbeats 2000000 in
theorem prow_seq (S T : Nat → Prop) (gb ob n c bb ba bs : Nat) (a s : Int) (w : World) (ha0 : 0 ≤ a) (ha1 : a ≤ 1000000) (hs0 : 0 ≤ s) (hs1 : s ≤ 1000) (hfit : a + 7 * s + 8 ≤ n) (hnc : n ≤ c)
    (kb : w.heap[bb]? = some (.cells #[.slice (some ⟨gb, ob, none⟩) n c] 24 (0, 0))) (ka : w.heap[ba]? = some (.cells #[.int .i64 a] 3 (0, 0))) (ks : w.heap[bs]? = some (.cells #[.int .i64 s] 3 (0, 0)))
    (sb : ¬ S bb) (sa : ¬ S ba) (ss : ¬ S bs) (hT : ∀ k, T k → k < w.heap.size) :
    SeqX Try.prog 101 #[.pointer (some ⟨bb, 0, none⟩), .pointer (some ⟨ba, 0, none⟩), .pointer (some ⟨bs, 0, none⟩)] (prowA gb ob c a s) S T w := by
  intro l J Jx W hW hJ hJx hY h0
  have kb' := blk_kept kb (below_grown hW none) (by simp)
  have ka' := blk_kept ka (below_grown hW none) (by simp)
  have ks' := blk_kept ks (below_grown hW none) (by simp)
  have hwf : ∀ f, Fence.wide.fn f := fun _ => trivial
  have hwd : Fence.wide.depth = none := rfl
  have hY' := Lib.hid hY
  have KBB := Lib.hid kb'
  have KA := Lib.hid ka'
  have KS := Lib.hid ks'
  clear hY kb ka ks kb' ka' ks'
  (refine callsIn_of_wp Try.func101 rfl trivial ?_ rfl; simp only [Try.ntmps101, List.size_toArray, List.length_cons, List.length_nil, Nat.reduceAdd, Nat.reduceSub, Array.replicate_succ, Array.replicate_zero, List.push_toArray, List.append_toArray, List.nil_append, List.cons_append])
  gi_wp2
  gi_loopw [5, 6] (fun _ i wr => ∃ k : Nat, k ≤ 8 ∧ i = .int .i64 k ∧ J k wr ∧ wr.heap[bb]? = some (.cells #[.slice (some ⟨gb, ob, none⟩) n c] 24 (0, 0)) ∧ wr.heap[ba]? = some (.cells #[.int .i64 a] 3 (0, 0)) ∧ wr.heap[bs]? = some (.cells #[.int .i64 s] 3 (0, 0))) (fun _ i _ => 10 - (intOf i).toNat)
  case atStart => exact ⟨0, by omega, rfl, h0, KBB.out, KA.out, KS.out⟩
  case round =>
    obtain ⟨k, hk, rfl, hJk, kb, ka, ks⟩ := hrel
    have HJ := Lib.hid hJk
    have HB := Lib.hid kb
    have HA := Lib.hid ka
    have HS := Lib.hid ks
    clear h0 hJk KBB KA KS
    by_cases hlt : k < 8
    · have hkl : (k : Int) < 8 := by omega
      have cb := blk_cell kb 0
      have ca := blk_cell ka 0
      have cs := blk_cell ks 0
      simp only [List.getElem?_toArray, List.getElem?_cons_zero] at cb ca cs
      clear kb ka ks
      have hm0 : 0 ≤ (k : Int) * s := Int.mul_nonneg (by omega) hs0
      have hm1 : (k : Int) * s ≤ 7 * s := Int.mul_le_mul_of_nonneg_right (by omega) hs0
      obtain ⟨fn, tmps, assign, body, hy, hR⟩ := hY'.out _ _ wr (prowA_at gb ob c a s k hlt) HJ.out
      unfold prowV at hy
      obtain ⟨q, hq⟩ : ∃ q : Nat, a + (k : Int) * s = q := ⟨(a + (k : Int) * s).toNat, by omega⟩
      rw [hq, Int.toNat_natCast] at hy
      have hqn : q + 8 ≤ n := by omega
      have hqc : q < c := by omega
      have HQ := Lib.hid hq
      have hm2 : (k : Int) * s ≤ 7000 := by omega
      clear hm1
      gi_wp2
      refine hR.mono ?_
      rintro e W3 ⟨hk3, ⟨rfl, hJ3⟩ | ⟨rfl, hJx3⟩⟩
      · gi_wp2
        go_roundw
        case rel => exact ⟨k + 1, by omega, by go_num, hJ3, hk3.kc.cells _ _ HB.out rfl sb, hk3.kc.cells _ _ HA.out rfl sa, hk3.kc.cells _ _ HS.out rfl ss⟩
        case measure => simp [intOf]; omega
      · gi_wp2
        exact bodyPost_ret (results_none rfl _ _ _) rfl ⟨⟨_, rfl⟩, .inr ⟨k + 1, by omega, by rw [prowA_len]; omega, hJx3⟩⟩
    · have e : k = 8 := by omega
      subst e
      gi_wp2
      go_end0
      exact ⟨⟨_, rfl⟩, .inl (by rw [prowA_len]; exact HJ.out)⟩
end Go.Proofs.Ytcieggaihelacaa
/- Numbers laid into a list, one behind the other; the builtin copy into a block of bytes. -/
set_option linter.unusedSimpArgs false
set_option linter.unusedVariables false
namespace Go.Proofs.Ytcieggaihelacaa
open Go.RowKit
/-- The first k of the numbers v, laid to the places q, into xs. -/
def put (q : Nat → Nat) (v : Nat → Int) : Nat → List Int → List Int
  | 0, xs => xs
  | k + 1, xs => (put q v k xs).set (q k) (v k)
theorem put_len (q : Nat → Nat) (v : Nat → Int) (k : Nat) (xs : List Int) : (put q v k xs).length = xs.length := by
  induction k with
  | zero => rfl
  | succ k ih => unfold put; rw [List.length_set, ih]
theorem put_miss {q : Nat → Nat} {v : Nat → Int} {k m : Nat} {xs : List Int} (h : ∀ i, i < k → q i ≠ m) : (put q v k xs)[m]? = xs[m]? := by
  induction k with
  | zero => rfl
  | succ k ih =>
    unfold put
    rw [List.getElem?_set_ne (h k (by omega)), ih (fun i hi => h i (by omega))]
theorem put_hit {q : Nat → Nat} {v : Nat → Int} {k i : Nat} {xs : List Int} (hi : i < k) (hinj : ∀ j, i < j → j < k → q j ≠ q i) (hq : q i < xs.length) : (put q v k xs)[q i]? = some (v i) := by
  induction k with
  | zero => omega
  | succ k ih =>
    unfold put
    by_cases e : i = k
    · subst e
      rw [List.getElem?_set_self (by rw [put_len]; exact hq)]
    · rw [List.getElem?_set_ne (hinj k (by omega) (by omega)), ih (by omega) (fun j h1 h2 => hinj j h1 (by omega))]
theorem byt.put {q : Nat → Nat} {v : Nat → Int} {xs : List Int} (h : byt xs) (hv : ∀ i, 0 ≤ v i ∧ v i ≤ 255) (k : Nat) : byt (put q v k xs) := by
  induction k with
  | zero => exact h
  | succ k ih => exact ih.set (hv k) _
theorem splice_snoc (L : List Int) (p : Nat) (vs : List Int) (x : Int) (h : p + vs.length < L.length) : splice L p (vs ++ [x]) = (splice L p vs).set (p + vs.length) x := by
  unfold splice
  have h1 : (L.take p).length = p := by rw [List.length_take]; omega
  rw [List.set_append_right _ _ (by rw [h1]; omega), h1, List.set_append_right _ _ (by omega)]
  rw [show p + vs.length - p - vs.length = 0 by omega, List.length_append, List.length_singleton, List.drop_eq_getElem_cons h]
  simp only [List.set_cons_zero, List.append_assoc, List.singleton_append]
  rw [show p + (vs.length + 1) = p + vs.length + 1 by omega]
theorem splice_row (q : Nat → Nat) (v : Nat → Int) (xs : List Int) (s : Nat) (n : Nat) (hq : ∀ u, u < n → q (s + u) = q s + u) (hfit : q s + n ≤ xs.length) :
    splice (put q v s xs) (q s) ((List.range n).map (fun u => v (s + u))) = put q v (s + n) xs := by
  induction n with
  | zero => simp [splice]
  | succ n ih =>
    rw [List.range_succ, List.map_append, List.map_singleton, splice_snoc _ _ _ _ (by rw [List.length_map, List.length_range, put_len]; omega), List.length_map, List.length_range,
      ih (fun u hu => hq u (by omega)) (by omega), ← hq n (by omega)]
    rfl
theorem splice_cells (xs : List Int) (tl : List Value) (p : Nat) (vs : List Int) (h : p + vs.length ≤ xs.length) :
    (xs.map (Value.int .u8) ++ tl).take p ++ (vs.map (Value.int .u8) ++ (xs.map (Value.int .u8) ++ tl).drop (p + (vs.map (Value.int .u8)).length)) = (splice xs p vs).map (Value.int .u8) ++ tl := by
  unfold splice
  rw [List.length_map, List.take_append_of_le_length (by rw [List.length_map]; omega), List.drop_append_of_le_length (by rw [List.length_map]; omega)]
  simp only [List.map_append, List.map_take, List.map_drop, List.append_assoc]
section
variable {F : Fence} {nF : Nat} {ops : Array Oper} {rest : List Oper} {Q : Exit → Act → World → Prop} {a : Act} {w : World}
theorem run_copyP {ty : TypeId} {gb p m dc sb so sc : Nat} {vs xs : List Int} {tl : List Value} (hp : Pic w gb xs tl) (hm : vs.length = m)
    (hv : ∀ i : Nat, i < m → w.cell? ⟨sb, so + i, none⟩ = some (.int .u8 (vs[i]?.getD 0))) (hfit : p + m ≤ xs.length) :
    ∃ w', (Builtin.copy_ #[24, 24] ty #[.slice (some ⟨gb, p, none⟩) m dc, .slice (some ⟨sb, so, none⟩) m sc]).run Try.prog w = .ok (goInt m) w' ∧ Pic w' gb (splice xs p vs) tl ∧ w.grownBy w' (some gb) := by
  subst hm
  have hr := run_copy_row (P := Try.prog) w 24 24 ty 5 gb p vs.length dc ⟨sb, so, none⟩ vs.length sc _ 5 (vs.map (Value.int .u8)) Try.underlying24 (by kernel_rfl) hp (by simp) (fun j y hj => by
    have hjl : j < vs.length := by have := (List.getElem?_eq_some_iff.1 hj).1; simpa using this
    have h1 := hv j hjl
    rw [List.getElem?_map] at hj
    simp [hjl] at hj h1
    subst hj
    unfold Addr.add
    split
    · rename_i e0; subst e0; exact h1
    · exact h1) (by simp; omega) (by intro y hy; obtain ⟨z, _, rfl⟩ := List.mem_map.1 hy; rfl)
  rw [List.length_map] at hr
  refine ⟨_, hr, ?_, ⟨rfl, rfl, rfl, by simp [World.setRow], fun k hk hne => setRow_other w gb k _ (fun e => hne (by rw [e]))⟩⟩
  unfold Pic
  rw [setRow_heap w gb _ _ _ _ hp]
  have := splice_cells xs tl p vs (by omega)
  rw [List.length_map] at this
  simp only [List.append_assoc]
  rw [this]
theorem wpIn_copyP {dst : Option Tmp} {ty : TypeId} {pos : String} {aft : Array Edge} {d s : Operand} {gb p m dc sb so sc : Nat} {vs xs : List Int} {tl : List Value}
    (hd : a.eval d = .slice (some ⟨gb, p, none⟩) m dc) (hs : a.eval s = .slice (some ⟨sb, so, none⟩) m sc) (hp : Pic w gb xs tl) (hm : vs.length = m)
    (hv : ∀ i : Nat, i < m → w.cell? ⟨sb, so + i, none⟩ = some (.int .u8 (vs[i]?.getD 0))) (hfit : p + m ≤ xs.length)
    (h : ∀ w', Hid (Pic w' gb (splice xs p vs) tl) → Hid (w.grownBy w' (some gb)) → wpListIn F nF Try.prog ops Q rest (a.put dst (goInt m)) w') :
    wpListIn F nF Try.prog ops Q (⟨dst, .call { callee := .builtin .copy, args := #[d, s], argTypes := #[24, 24] }, ty, pos, aft, none⟩ :: rest) a w := by
  refine wpListIn_plain rfl fun K hK => ?_
  obtain ⟨w', hr, h1, h2⟩ := run_copyP (ty := ty) (dc := dc) (sc := sc) hp hm hv hfit
  unfold Oper.wpIn
  refine ⟨by simp [Oper.about, resolve, Target.leads, Sem.run_pure], ?_⟩
  rw [Oper.semAt_plain F _ _ (by intro c hc'; cases hc')]
  simp [execOp, resolve, invoke, builtin, hs, hd, hr, Result.andThen]
  exact hK _ _ (h w' h1 h2)
end
theorem Rd.at' {k : IntKind} {w : World} {a : Option Addr} {n c : Nat} {xs : List Int} (h : Rd k w (.slice a n c) xs) {i : Nat} (hi : i < n) : ∃ b o, a = some ⟨b, o, none⟩ ∧ n ≤ c ∧ w.cell? ⟨b, o + i, none⟩ = some (.int k (xs[i]?.getD 0)) := by
  rcases h with ⟨e, _⟩ | ⟨b, o, c', e, _, hc, _, hh⟩
  · cases e; omega
  · cases e; exact ⟨b, o, rfl, hc, hh i hi⟩
theorem Ab.rd {B : Nat} {T : Nat → Prop} {kd : IntKind} {v : Value} {xs : List Int} (hT : ∀ k, ¬ T k) : Ab B T (fun _ W => Rd kd W v xs) := fun k W W' row hj hg hr => by
  rcases hj with h | ⟨b, off, cap, rfl, hlt, hc, hl, hh⟩
  · exact .inl h
  · refine .inr ⟨b, off, cap, rfl, Nat.lt_of_lt_of_le hlt hg.size, hc, hl, fun i hi => ?_⟩
    refine (World.cell?_of_block (w := W) (a := ⟨b, off + i, none⟩) (hg.block b hlt (fun e => ?_))).trans (hh i hi)
    rcases hr b e.symm with h | ⟨_, o, h1, h2⟩
    · exact hT b h
    · have := hh i hi
      unfold World.cell? at this
      rw [h1] at this
      cases o <;> simp [Obj.isCells] at h2 this
end Go.Proofs.Ytcieggaihelacaa
/- The contract of the program's Lay: refused, or the block's samples are laid into the picture. -/
set_option linter.unusedSimpArgs false
set_option linter.unusedVariables false
namespace Go.Proofs.Ytcieggaihelacaa
open Go.RowKit Go.Shelf
set_option maxRecDepth 100000
attribute [local go_sem] Oper.semAt_some
theorem plcS_is' {f b : Int} (hf : f = 0 ∨ f = 1) : plcS f b = 88 ∨ plcS f b = 176 ∨ plcS f b = 352 := by
  unfold plcS
  rcases hf with rfl | rfl
  · have e1 : wideS 0 = 176 := rfl
    rw [e1]; split <;> omega
  · have e1 : wideS 1 = 352 := rfl
    rw [e1]; split <;> omega
theorem fetI_inj' {f g a b x y : Int} (hf : f = 0 ∨ f = 1) {k j : Nat} (hk : k < 64) (hj : j < 64) (h : fetI f g a b x y k = fetI f g a b x y j) : k = j := by
  unfold fetI at h
  generalize plcV f (cornerX f g a) (cornerY g a) b = V at h
  generalize sxS b x = sx at h
  generalize sxS b y = sy at h
  rcases plcS_is' (f := f) (b := b) hf with e | e | e <;> rw [e] at h <;> omega
def layQ (f g a b : Int) (i : Nat) : Nat := (fetI f g a b 0 0 i).toNat
def layE (f g a : Int) (n m : Nat) (b : Int) : Int := if cornE f g a = 0 then (if (n : Int) = bytesS f ∧ m = 64 then plE f g a b else 2) else cornE f g a
def layL (f g a b : Int) (xs ss : List Int) : List Int := if layE f g a xs.length ss.length b = 0 then put (layQ f g a b) (fun i => ss[i]?.getD 0) 64 xs else xs
theorem lay_cases (f g a b : Int) (n m : Nat) :
    (cornE f g a ≠ 0 ∧ layE f g a n m b = cornE f g a) ∨
    (cornE f g a = 0 ∧ (n : Int) ≠ bytesS f ∧ layE f g a n m b = 2) ∨
    (cornE f g a = 0 ∧ (n : Int) = bytesS f ∧ m ≠ 64 ∧ layE f g a n m b = 2) ∨
    (cornE f g a = 0 ∧ (n : Int) = bytesS f ∧ m = 64 ∧ ¬ (1 ≤ b ∧ b ≤ 6) ∧ plE f g a b = 3 ∧ layE f g a n m b = 3) ∨
    (cornE f g a = 0 ∧ (n : Int) = bytesS f ∧ m = 64 ∧ (1 ≤ b ∧ b ≤ 6) ∧ plE f g a b = 0 ∧ layE f g a n m b = 0) := by
  unfold layE plE
  by_cases h1 : cornE f g a = 0
  · by_cases h2 : (n : Int) = bytesS f
    · by_cases h3 : m = 64
      · by_cases h4 : 1 ≤ b ∧ b ≤ 6
        · exact .inr (.inr (.inr (.inr ⟨h1, h2, h3, h4, by rw [if_pos h1, if_pos h4], by rw [if_pos h1, if_pos ⟨h2, h3⟩, if_pos h1, if_pos h4]⟩)))
        · exact .inr (.inr (.inr (.inl ⟨h1, h2, h3, h4, by rw [if_pos h1, if_neg h4], by rw [if_pos h1, if_pos ⟨h2, h3⟩, if_pos h1, if_neg h4]⟩)))
      · exact .inr (.inr (.inl ⟨h1, h2, h3, by rw [if_pos h1, if_neg (fun h => h3 h.2)]⟩))
    · exact .inr (.inl ⟨h1, h2, by rw [if_pos h1, if_neg (fun h => h2 h.1)]⟩)
  · exact .inl ⟨h1, by rw [if_neg h1]⟩
theorem layL_none {f g a b : Int} {xs ss : List Int} (h : layE f g a xs.length ss.length b ≠ 0) : layL f g a b xs ss = xs := by unfold layL; rw [if_neg h]
theorem fetI_0 (f g a b : Int) (i : Nat) : fetI f g a b 0 0 i = plcV f (cornerX f g a) (cornerY g a) b + (i : Int) / 8 * plcS f b + (i : Int) % 8 := by
  have h0 : halfS 0 = 0 := by decide
  unfold fetI sxS
  rw [h0]
  simp
theorem layQ_is {f g a b : Int} {n : Nat} (hc : cornE f g a = 0) (hl : (n : Int) = bytesS f) (hb : 1 ≤ b ∧ b ≤ 6) {i : Nat} (hi : i < 64) : (layQ f g a b i : Int) = fetI f g a b 0 0 i ∧ layQ f g a b i < n := by
  obtain ⟨hf, hg, ha3, hX, hY⟩ := corn_ok hc
  obtain ⟨x0, x1, y0, y1⟩ := corner_bd hf hg ha3
  have hfit : fitsE f g a 0 0 = 0 := by
    unfold fitsE; rw [if_pos hc, if_pos (by decide), if_pos (by omega)]
  have h := fetI_in (x := 0) (y := 0) hc hl hb hfit hi
  unfold layQ
  omega
set_option maxHeartbeats 2000000 in
theorem lay_bad (f g a b : Int) (gb n c : Nat) (u : Value) (ss : List Int) (w : World) (hs : Rd .u8 w u ss) (hl : n ≤ 140737488351232) (ha : -9223372036854775808 ≤ a) (ha2 : a ≤ 9223372036854775807) (hne : layE f g a n ss.length b ≠ 0) :
    Calls Try.prog 65 #[.slice (some ⟨gb, 0, none⟩) n c, .agg #[.int .i64 f, .int .i64 g, .int .i64 a], .int .i64 b, u] w fun e w' => e = .returned (.int .i64 (layE f g a n ss.length b)) ∧ Below w.heap.size w w' := by
  refine (callsIn_wide (n := 0)).1 ?_
  have hwf : ∀ f, Fence.wide.fn f := fun _ => trivial
  have hwd : Fence.wide.depth = none := rfl
  have hsl := hs.len
  obtain ⟨ua, uc, rfl⟩ := hs.form
  obtain ⟨m, hm⟩ : ∃ m, ss.length = m := ⟨_, rfl⟩
  rw [hm] at hne hsl ⊢
  clear hs hm
  have hB := ((Below.refl w.heap.size w).alloc (Nat.le_refl _) (Obj.cells #[.int .i64 f, .int .i64 g, .int .i64 a] 23)).alloc (by simp) (Obj.cells #[.slice ua m uc] 24)
  have hL := ((Lies.nil w).alloc (Obj.cells #[.int .i64 f, .int .i64 g, .int .i64 a] 23)).alloc (Obj.cells #[.slice ua m uc] 24)
  simp only [World.size_alloc] at hL
  have HB := Lib.hid hB
  have HL := Lib.hid hL
  clear hB hL
  have hpc := pcorner_any f g a
  have HPC := Lib.hid hpc
  clear hpc
  rcases lay_cases f g a b n m with ⟨hc, e⟩ | ⟨hc, h1, e⟩ | ⟨hc, h1, h2, e⟩ | ⟨hc, h1, h2, h3, hp, e⟩ | ⟨_, _, _, _, _, e⟩
  · rw [e]; clear e hne
    have ht : (cornE f g a != 0) = true := by simpa using hc
    rw [if_neg hc] at HPC
    clear hc
    (refine callsIn_of_wp_marks Try.func65 rfl trivial ?_ rfl; simp only [Try.ntmps65, List.size_toArray, List.length_cons, List.length_nil, Nat.reduceAdd, Nat.reduceSub, Array.replicate_succ, Array.replicate_zero, List.push_toArray, List.append_toArray, List.nil_append, List.cons_append])
    gi_wp2_with (gi_at_call 89; refine (callsIn_wide.2 (HPC.out _ ha ha2)).mono ?_; rintro e w1 ⟨rfl, hb1⟩; have HB1 := Lib.hid (below_nxt HB.out hb1); clear hb1)
    exact ⟨_, by simp [results, Try.results65, go_sem], rfl, HB1.out⟩
  · rw [e]; clear e hne
    have ht : ((n : Int) != bytesS f) = true := by simpa using h1
    rw [if_pos hc, hc] at HPC
    clear hc h1
    (refine callsIn_of_wp_marks Try.func65 rfl trivial ?_ rfl; simp only [Try.ntmps65, List.size_toArray, List.length_cons, List.length_nil, Nat.reduceAdd, Nat.reduceSub, Array.replicate_succ, Array.replicate_zero, List.push_toArray, List.append_toArray, List.nil_append, List.cons_append])
    gi_wp2_with (gi_at_call 89; refine (callsIn_wide.2 (HPC.out _ ha ha2)).mono ?_; rintro e w1 ⟨rfl, hb1⟩; have HB1 := Lib.hid (below_nxt HB.out hb1); clear hb1)
    exact ⟨_, by simp [results, Try.results65, go_sem], rfl, HB1.out⟩
  · rw [e]; clear e hne
    have ht : ((n : Int) != bytesS f) = false := by simpa using h1
    have ht2 : ((m : Int) != 64) = true := by simp; omega
    rw [if_pos hc, hc] at HPC
    clear hc h1 h2
    (refine callsIn_of_wp_marks Try.func65 rfl trivial ?_ rfl; simp only [Try.ntmps65, List.size_toArray, List.length_cons, List.length_nil, Nat.reduceAdd, Nat.reduceSub, Array.replicate_succ, Array.replicate_zero, List.push_toArray, List.append_toArray, List.nil_append, List.cons_append])
    gi_wp2_with (gi_at_call 89; refine (callsIn_wide.2 (HPC.out _ ha ha2)).mono ?_; rintro e w1 ⟨rfl, hb1⟩; have HB1 := Lib.hid (below_nxt HB.out hb1); have k1 := (HL.out.next hb1).head; have cs := blk_cell k1 0; simp only [List.getElem?_toArray, List.getElem?_cons_zero] at cs; clear hb1 k1)
    exact ⟨_, by simp [results, Try.results65, go_sem], rfl, HB1.out⟩
  · rw [e]; clear e hne
    have ht : ((n : Int) != bytesS f) = false := by simpa using h1
    subst h2
    rw [if_pos hc, hc] at HPC
    have HP := Lib.hid hp
    clear hc h1 h3 hp
    (refine callsIn_of_wp_marks Try.func65 rfl trivial ?_ rfl; simp only [Try.ntmps65, List.size_toArray, List.length_cons, List.length_nil, Nat.reduceAdd, Nat.reduceSub, Array.replicate_succ, Array.replicate_zero, List.push_toArray, List.append_toArray, List.nil_append, List.cons_append])
    gi_wp2_with (first
      | (gi_at_call 89; refine (callsIn_wide.2 (HPC.out _ ha ha2)).mono ?_; rintro e w1 ⟨rfl, hb1⟩; have HB1 := Lib.hid (below_nxt HB.out hb1); have HL1 := HL.out.next hb1; have cs := blk_cell HL1.head 0; have k0 := HL1.tail.head; have c0 := blk_cell k0 0; have c1 := blk_cell k0 1; have c2 := blk_cell k0 2; simp only [List.getElem?_toArray, List.getElem?_cons_zero, List.getElem?_cons_succ] at cs c0 c1 c2; clear hb1 HL1 k0)
      | (gi_at_call 48; refine (callsIn_wide.2 (place_any _ _ _ _ _ ha ha2)).mono ?_; rw [HP.out]; rintro e w2 ⟨rfl, hb2⟩; have HB2 := Lib.hid (below_nxt HB1.out hb2); clear hb2))
    exact ⟨_, by simp [results, Try.results65, go_sem], rfl, HB2.out⟩
  · exact absurd e hne
end Go.Proofs.Ytcieggaihelacaa
