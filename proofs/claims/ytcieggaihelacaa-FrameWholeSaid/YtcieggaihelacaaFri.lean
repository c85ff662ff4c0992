/- The frame layer's iterators: luma, parts: each hands on its list of parts, in its order, to the end or to a round that says no more. -/
import Derived.Test.YtcieggaihelacaaFrh
import Derived.Test.YtcieggaihelacaaRng
set_option linter.unusedSimpArgs false
set_option linter.unusedVariables false
namespace Go.Proofs.Ytcieggaihelacaa
open Go.RowKit Go.Shelf
attribute [local go_sem] Oper.semAt_some

abbrev Part := Int × Int × Int
def encP (p : Part) : Array Value := #[.agg #[.int .i64 p.1, .int .i64 p.2.1, .int .i64 p.2.2]]
def lumaP (f X Y : Int) (i : Nat) : Part := ((i : Int) + 1, (Y + (i : Int) / 2 * 8) * wideS f + (X + (i : Int) % 2 * 8), wideS f)
def lumaA (f X Y : Int) : List (Array Value) := [encP (lumaP f X Y 0), encP (lumaP f X Y 1), encP (lumaP f X Y 2), encP (lumaP f X Y 3)]
theorem lumaA_at (f X Y : Int) (k : Nat) (h : k < 4) : (lumaA f X Y)[k]? = some (encP (lumaP f X Y k)) := by
  have : k = 0 ∨ k = 1 ∨ k = 2 ∨ k = 3 := by omega
  rcases this with rfl | rfl | rfl | rfl <;> rfl
theorem lumaA_len (f X Y : Int) : (lumaA f X Y).length = 4 := rfl

set_option maxRecDepth 100000 in
set_option maxHeartbeats 2000000 in
theorem luma_seq (S T : Nat → Prop) (f X Y : Int) (bf bx bY : Nat) (w : World) (hf : f = 0 ∨ f = 1) (hX0 : 0 ≤ X) (hX1 : X ≤ 400) (hY0 : 0 ≤ Y) (hY1 : Y ≤ 400)
    (kf : w.heap[bf]? = some (.cells #[.int .i64 f] 88 (0, 0))) (kx : w.heap[bx]? = some (.cells #[.int .i64 X] 3 (0, 0))) (ky : w.heap[bY]? = some (.cells #[.int .i64 Y] 3 (0, 0)))
    (sf : ¬ S bf) (sx : ¬ S bx) (sy : ¬ S bY) (hS : ∀ k, S k → k < w.heap.size) (hT : ∀ k, T k → k < w.heap.size) :
    SeqX Try.prog 104 #[.pointer (some ⟨bf, 0, none⟩), .pointer (some ⟨bx, 0, none⟩), .pointer (some ⟨bY, 0, none⟩)] (lumaA f X Y) S T w := by
  intro l J Jx W hW hJ hJx hY h0
  have hsz := hW.size
  have cf := blk_cell (blk_kept kf (below_grown hW none) (by simp)) 0
  have kx' := blk_kept kx (below_grown hW none) (by simp)
  have ky' := blk_kept ky (below_grown hW none) (by simp)
  simp only [List.getElem?_toArray, List.getElem?_cons_zero] at cf
  obtain ⟨hw0, hw1⟩ := wideS_bd f
  have hwf : ∀ f, Fence.wide.fn f := fun _ => trivial
  have hwd : Fence.wide.depth = none := rfl
  (refine callsIn_of_wp Try.func104 rfl trivial ?_ rfl; simp only [Try.ntmps104, List.size_toArray, List.length_cons, List.length_nil, Nat.reduceAdd, Nat.reduceSub, Array.replicate_succ, Array.replicate_zero, List.push_toArray, List.append_toArray, List.nil_append, List.cons_append])
  gi_wp2_with (gi_at_call 80; refine (callsIn_wide.2 (wide_any _ _)).mono ?_; rintro e w' ⟨rfl, rfl⟩)
  have hJ0 := hJ 0 W (W.alloc (.cells #[.int .i64 0, .int .i64 (wideS f)] 114)) none h0 (World.grownBy_alloc _ _ _) (fun r e => by cases e)
  gi_loopw [10] (fun i wr => ∃ k : Nat, k ≤ 4 ∧ i = .int .i64 k ∧ J k wr ∧ wr.heap[W.heap.size]? = some (.cells #[.int .i64 0, .int .i64 (wideS f)] 114 (0, 0)) ∧ wr.heap[bx]? = some (.cells #[.int .i64 X] 3 (0, 0)) ∧ wr.heap[bY]? = some (.cells #[.int .i64 Y] 3 (0, 0))) (fun i _ => 4 - (intOf i).toNat)
  case atStart => exact ⟨0, by omega, rfl, hJ0, World.alloc_heap_new _ _, blk_kept kx' (World.grownBy_alloc _ _ none) (by simp), blk_kept ky' (World.grownBy_alloc _ _ none) (by simp)⟩
  case round =>
    obtain ⟨k, hk, rfl, hJk, kp, kx2, ky2⟩ := hrel
    clear hJ0 h0 cf kx' ky'
    have HJ := Lib.hid hJk
    have HP := Lib.hid kp
    have HX := Lib.hid kx2
    have HY := Lib.hid ky2
    clear hJk kp kx2 ky2
    by_cases hlt : k < 4
    · have hkl : (k : Int) < 4 := by omega
      gi_wp2
      refine wpIn_region_mix (fun w' => w'.cell? ⟨W.heap.size, 0, none⟩ = some (.int .i64 0) ∧ w'.cell? ⟨W.heap.size, 1, none⟩ = some (.int .i64 (wideS f)) ∧ w'.cell? ⟨bx, 0, none⟩ = some (.int .i64 X) ∧ w'.cell? ⟨bY, 0, none⟩ = some (.int .i64 Y)) [18, 19]
        [(0, true), (1, true), (2, true), (3, true), (4, true), (5, true), (6, true), (7, true), (8, true), (9, true), (10, true), (11, true), (12, true), (13, true), (15, true), (16, true), (14, false), (17, true), (18, false), (19, false)] hwf (by kernel_rfl) (by kernel_rfl) rfl (by kernel_rfl) ?hB ?_
      case hB => exact ⟨by rw [World.cell?_drew, blk_cell HP.out]; rfl, by rw [World.cell?_drew, blk_cell HP.out]; rfl, by rw [World.cell?_drew, blk_cell HX.out]; rfl, by rw [World.cell?_drew, blk_cell HY.out]; rfl⟩
      iterate 16 (refine mix_q rfl rfl (fun w' hB => by obtain ⟨b0, b1, b2, b3⟩ := hB; go_simp; rfl) ?_; simp only [Act.put, List.setIfInBounds_toArray, List.set_cons_succ, List.set_cons_zero])
      simp (disch := omega) only [w64, tmod_in]
      refine mix_e rfl rfl ?_
      go_simp
      have hat := planeAt_any 0 (wideS f) (X + (k : Int) % 2 * 8) (Y + (k : Int) / 2 * 8) wr.drew (by omega) (by omega) (by omega) (by omega) (by omega) (by omega) (by omega) (by omega)
      simp only [Int.zero_add] at hat
      refine (callsIn_wide.2 hat).mono ?_
      clear hat
      rintro e w2 ⟨rfl, hb2⟩
      have hg2 : wr.grownBy w2 none := ⟨hb2.os, hb2.tape, hb2.output, hb2.size, fun k hk _ => hb2.block k hk⟩
      have HP2 := Lib.hid (blk_kept HP.out hg2 (by simp))
      have HX2 := Lib.hid (blk_kept HX.out hg2 (by simp))
      have HY2 := Lib.hid (blk_kept HY.out hg2 (by simp))
      refine ⟨⟨by rw [blk_cell HP2.out]; rfl, by rw [blk_cell HP2.out]; rfl, by rw [blk_cell HX2.out]; rfl, by rw [blk_cell HY2.out]; rfl⟩, ?_⟩
      obtain ⟨fn, tmps, assign, body, hy, hR⟩ := hY _ _ w2 (lumaA_at f X Y k hlt) (hJ _ _ _ none HJ.out hg2 (fun r e => by cases e))
      dsimp only [encP, lumaP] at hy
      refine mix_q rfl rfl (fun w' hB => by go_simp; rfl) ?_
      simp only [Act.put, List.setIfInBounds_toArray, List.set_cons_succ, List.set_cons_zero]
      refine mix_e rfl rfl ?_
      go_simp
      refine hR.mono ?_
      rintro e W3 ⟨hk3, ⟨rfl, hJ3⟩ | ⟨rfl, hJx3⟩⟩
      · refine mix_e rfl rfl ?_
        go_simp
        refine mix_nil ?_
        gi_wp2
        go_roundw
        case rel =>
          exact ⟨k + 1, by omega, by go_num, hJ3, hk3.kc.cells _ _ HP2.out rfl (fun h => by have := hS _ h; omega), hk3.kc.cells _ _ HX2.out rfl sx, hk3.kc.cells _ _ HY2.out rfl sy⟩
        case measure => simp [intOf]; omega
      · refine mix_e rfl rfl ?_
        go_simp
        refine mix_nil ?_
        gi_wp2
        refine bodyPost_ret (results_none rfl _ _ _) rfl ⟨⟨_, rfl⟩, .inr ⟨k + 1, by omega, by rw [lumaA_len]; omega, hJx3⟩⟩
    · have e : k = 4 := by omega
      subst e
      gi_wp2
      go_end0
      exact ⟨⟨_, rfl⟩, .inl HJ.out⟩
end Go.Proofs.Ytcieggaihelacaa
