/- The frame layer's iterators: the makers luma and parts, and parts itself: all six blocks, in their order, to the end or to a round that says no more. -/
import Derived.Test.YtcieggaihelacaaFri
set_option linter.unusedSimpArgs false
set_option linter.unusedVariables false
namespace Go.Proofs.Ytcieggaihelacaa
open Go.RowKit Go.Shelf
attribute [local go_sem] Oper.semAt_some

theorem grown_drew (w : World) (row : Option Nat) : w.grownBy w.drew row := ⟨rfl, rfl, rfl, Nat.le_refl _, fun _ _ _ => rfl⟩
/-- What takes up a mark: the block for a loop's deferred calls, which holds none, is shut. -/
def shut (D : Nat) (W : World) : World := W.putObj D (.deferred none)
theorem Ab.ex {α : Type} {B : Nat} {T : Nat → Prop} {J : α → Nat → World → Prop} (h : ∀ q, Ab B T (J q)) : Ab B T (fun k W => ∃ q, J q k W) := fun k W W' row hj hg hr => by
  obtain ⟨q, hq⟩ := hj
  exact ⟨q, h q k W W' row hq hg hr⟩
theorem Ab.at {B : Nat} {T : Nat → Prop} {J : Nat → World → Prop} (h : Ab B T J) (k : Nat) : Ab B T (fun _ W => J k W) := fun _ W W' row hj hg hr => h k W W' row hj hg hr

theorem luma_any (f X Y : Int) (w : World) :
    Calls Try.prog 99 #[.int .i64 f, .int .i64 X, .int .i64 Y] w fun e w' => ∃ b0 b1 b2, e = .returned (.func (.func 104) #[] #[.pointer (some ⟨b0, 0, none⟩), .pointer (some ⟨b1, 0, none⟩), .pointer (some ⟨b2, 0, none⟩)]) ∧
      w'.heap[b0]? = some (.cells #[.int .i64 f] 88 (0, 0)) ∧ w'.heap[b1]? = some (.cells #[.int .i64 X] 3 (0, 0)) ∧ w'.heap[b2]? = some (.cells #[.int .i64 Y] 3 (0, 0)) ∧
      w.heap.size ≤ b0 ∧ w.heap.size ≤ b1 ∧ w.heap.size ≤ b2 ∧ Below w.heap.size w w' := by
  go_enter Try.func99, Try.ntmps99
  go_wp2
  go_ret
  refine ⟨_, _, _, rfl, ?_, ?_, ?_, ?_, ?_, ?_, ?_⟩
  · exact (Below.heap_alloc _ _ _ (by simp; omega)).trans ((Below.heap_alloc _ _ _ (by simp)).trans (World.alloc_heap_new w _))
  · exact (Below.heap_alloc _ _ _ (by simp)).trans (by have := World.alloc_heap_new (w.alloc (.cells #[.int .i64 f] 88)) (.cells #[.int .i64 X] 3); simpa using this)
  · have := World.alloc_heap_new ((w.alloc (.cells #[.int .i64 f] 88)).alloc (.cells #[.int .i64 X] 3)) (.cells #[.int .i64 Y] 3); simpa using this
  · omega
  · omega
  · omega
  · exact (((Below.refl _ w).alloc (Nat.le_refl _) _).alloc (by simp) _).alloc (by simp; omega) _
theorem parts_any (f X Y : Int) (w : World) :
    Calls Try.prog 87 #[.int .i64 f, .int .i64 X, .int .i64 Y] w fun e w' => ∃ b0 b1 b2, e = .returned (.func (.func 98) #[] #[.pointer (some ⟨b0, 0, none⟩), .pointer (some ⟨b1, 0, none⟩), .pointer (some ⟨b2, 0, none⟩)]) ∧
      w'.heap[b0]? = some (.cells #[.int .i64 f] 88 (0, 0)) ∧ w'.heap[b1]? = some (.cells #[.int .i64 X] 3 (0, 0)) ∧ w'.heap[b2]? = some (.cells #[.int .i64 Y] 3 (0, 0)) ∧
      w.heap.size ≤ b0 ∧ w.heap.size ≤ b1 ∧ w.heap.size ≤ b2 ∧ Below w.heap.size w w' := by
  go_enter Try.func87, Try.ntmps87
  go_wp2
  go_ret
  refine ⟨_, _, _, rfl, ?_, ?_, ?_, ?_, ?_, ?_, ?_⟩
  · exact (Below.heap_alloc _ _ _ (by simp; omega)).trans ((Below.heap_alloc _ _ _ (by simp)).trans (World.alloc_heap_new w _))
  · exact (Below.heap_alloc _ _ _ (by simp)).trans (by have := World.alloc_heap_new (w.alloc (.cells #[.int .i64 f] 88)) (.cells #[.int .i64 X] 3); simpa using this)
  · have := World.alloc_heap_new ((w.alloc (.cells #[.int .i64 f] 88)).alloc (.cells #[.int .i64 X] 3)) (.cells #[.int .i64 Y] 3); simpa using this
  · omega
  · omega
  · omega
  · exact (((Below.refl _ w).alloc (Nat.le_refl _) _).alloc (by simp) _).alloc (by simp; omega) _

def chrP (f X Y : Int) (i : Nat) : Part := ((i : Int) + 5, wideS f * (wideS f * 9 / 11) + (i : Int) * (wideS f * (wideS f * 9 / 11)) / 4 + Y / 2 * (wideS f / 2) + X / 2, wideS f / 2)
def partsA (f X Y : Int) : List (Array Value) := lumaA f X Y ++ [encP (chrP f X Y 0), encP (chrP f X Y 1)]
theorem partsA_l (f X Y : Int) {k : Nat} {x : Array Value} (h : (lumaA f X Y)[k]? = some x) : (partsA f X Y)[k]? = some x := by
  rw [← h]; unfold partsA
  have hk : k < 4 := by
    rcases Nat.lt_or_ge k 4 with h' | h'
    · exact h'
    · rw [List.getElem?_eq_none (by rw [lumaA_len]; omega)] at h; cases h
  exact List.getElem?_append_left (by rw [lumaA_len]; omega)
theorem partsA_c (f X Y : Int) {k : Nat} (h : k < 2) : (partsA f X Y)[k + 4]? = some (encP (chrP f X Y k)) := by
  have : k = 0 ∨ k = 1 := by omega
  rcases this with rfl | rfl <;> rfl
theorem partsA_len (f X Y : Int) : (partsA f X Y).length = 6 := rfl
theorem lumaA_inv (f X Y : Int) {k : Nat} {x : Array Value} (h : (lumaA f X Y)[k]? = some x) : k < 4 ∧ x = encP (lumaP f X Y k) := by
  rcases Nat.lt_or_ge k 4 with h' | h'
  · exact ⟨h', Option.some.inj (h.symm.trans (lumaA_at f X Y k h'))⟩
  · rw [List.getElem?_eq_none (by rw [lumaA_len]; omega)] at h; cases h

set_option maxRecDepth 100000 in
set_option maxHeartbeats 2000000 in
theorem parts_seq (S T : Nat → Prop) (f X Y : Int) (bf bx bY : Nat) (w : World) (hf : f = 0 ∨ f = 1) (hX0 : 0 ≤ X) (hX1 : X ≤ 400) (hY0 : 0 ≤ Y) (hY1 : Y ≤ 400)
    (kf : w.heap[bf]? = some (.cells #[.int .i64 f] 88 (0, 0))) (kx : w.heap[bx]? = some (.cells #[.int .i64 X] 3 (0, 0))) (ky : w.heap[bY]? = some (.cells #[.int .i64 Y] 3 (0, 0)))
    (sf : ¬ S bf) (sx : ¬ S bx) (sy : ¬ S bY) (tf : ¬ T bf) (tx : ¬ T bx) (ty : ¬ T bY) (hS : ∀ k, S k → k < w.heap.size) (hT : ∀ k, T k → k < w.heap.size) :
    SeqX Try.prog 98 #[.pointer (some ⟨bf, 0, none⟩), .pointer (some ⟨bx, 0, none⟩), .pointer (some ⟨bY, 0, none⟩)] (partsA f X Y) S T w := by
  intro l J Jx W hW hJ hJx hY h0
  have hsz := hW.size
  have kf' := blk_kept kf (below_grown hW none) (by simp)
  have kx' := blk_kept kx (below_grown hW none) (by simp)
  have ky' := blk_kept ky (below_grown hW none) (by simp)
  have kb : (W.alloc (.cells #[.func (.yield l) #[] #[]] 112)).heap[W.heap.size]? = _ := World.alloc_heap_new W (.cells #[.func (.yield l) #[] #[]] 112)
  have gb := World.grownBy_alloc W (.cells #[.func (.yield l) #[] #[]] 112) none
  have HB := Lib.hid kb
  have HG := Lib.hid gb
  have cf := blk_cell (blk_kept kf' gb (by simp)) 0
  have cx := blk_cell (blk_kept kx' gb (by simp)) 0
  have cy := blk_cell (blk_kept ky' gb (by simp)) 0
  clear kb gb
  simp only [List.getElem?_toArray, List.getElem?_cons_zero] at cf cx cy
  obtain ⟨hw0, hw1⟩ := wideS_bd f
  have hwf : ∀ f, Fence.wide.fn f := fun _ => trivial
  have hwd : Fence.wide.depth = none := rfl
  have HJ := Lib.hid h0
  have HF := Lib.hid kf'
  have HX := Lib.hid kx'
  have HY := Lib.hid ky'
  clear h0 kf' kx' ky' kf kx ky
  (refine callsIn_of_wp_marks Try.func98 rfl trivial ?_ rfl; simp only [Try.ntmps98, List.size_toArray, List.length_cons, List.length_nil, Nat.reduceAdd, Nat.reduceSub, Array.replicate_succ, Array.replicate_zero, List.push_toArray, List.append_toArray, List.nil_append, List.cons_append])
  gi_wp2_with (gi_at_call 99; refine (callsIn_wide.2 (luma_any _ _ _ _)).mono ?_; rintro e w2 ⟨c0, c1, c2, rfl, k0, k1, k2, l0, l1, l2, hb2⟩)
  have hsz2 := hb2.size
  rw [World.size_alloc] at hsz2 l0 l1 l2
  have HG2 := Lib.hid (HG.out.trans (below_grown hb2 none))
  have j2 := hJ.new HJ.out HG2.out
  have kb2 := blk_kept HB.out (below_grown hb2 none) (by simp)
  have kf2 := blk_kept HF.out HG2.out (by simp)
  have kx2 := blk_kept HX.out HG2.out (by simp)
  have ky2 := blk_kept HY.out HG2.out (by simp)
  have hbl : bf < W.heap.size ∧ bx < W.heap.size ∧ bY < W.heap.size := ⟨blk_lt HF.out, blk_lt HX.out, blk_lt HY.out⟩
  obtain ⟨kept, hkept⟩ : ∃ kept : World → Prop, kept = fun V => w2.heap.size ≤ V.heap.size ∧ V.heap[W.heap.size]? = some (.cells #[.func (.yield l) #[] #[]] 112 (0, 0)) ∧ V.heap[bf]? = some (.cells #[.int .i64 f] 88 (0, 0)) ∧ V.heap[bx]? = some (.cells #[.int .i64 X] 3 (0, 0)) ∧ V.heap[bY]? = some (.cells #[.int .i64 Y] 3 (0, 0)) := ⟨_, rfl⟩
  have hkA : Ab w2.heap.size T (fun _ V => kept V) := by
    rw [hkept]
    exact Ab.and (fun _ _ _ _ hs hg _ => Nat.le_trans hs hg.size) ((Ab.blk (b := fun _ => W.heap.size) (o := fun _ => .cells #[.func (.yield l) #[] #[]] 112 (0, 0)) (fun _ => rfl) (fun _ h => by have := hT _ h; omega)).and
      ((Ab.blk (b := fun _ => bf) (o := fun _ => .cells #[.int .i64 f] 88 (0, 0)) (fun _ => rfl) (fun _ => tf)).and
      ((Ab.blk (b := fun _ => bx) (o := fun _ => .cells #[.int .i64 X] 3 (0, 0)) (fun _ => rfl) (fun _ => tx)).and
      (Ab.blk (b := fun _ => bY) (o := fun _ => .cells #[.int .i64 Y] 3 (0, 0)) (fun _ => rfl) (fun _ => ty)))))
  have hkK : ∀ {A B : World}, kept A → KC S A B → kept B := by
    rw [hkept]
    rintro A B ⟨h0, h1, h2, h3, h4⟩ hk
    exact ⟨Nat.le_trans h0 hk.size, hk.cells _ _ h1 rfl (fun h => by have := hS _ h; omega), hk.cells _ _ h2 rfl sf, hk.cells _ _ h3 rfl sx, hk.cells _ _ h4 rfl sy⟩
  have hk2 : kept w2 := by rw [hkept]; exact ⟨Nat.le_refl _, kb2, kf2, kx2, ky2⟩
  have hkN : ∀ {A B : World}, kept A → A.grownBy B none → kept B := by
    rw [hkept]
    rintro A B ⟨h0, h1, h2, h3, h4⟩ hg
    exact ⟨Nat.le_trans h0 hg.size, blk_kept h1 hg (by simp), blk_kept h2 hg (by simp), blk_kept h3 hg (by simp), blk_kept h4 hg (by simp)⟩
  have HKE := Lib.hid hkept
  clear hkept
  have hks : ∀ {A : World}, kept A → w2.heap.size ≤ A.heap.size := fun h => by rw [HKE.out] at h; exact h.1
  have HK2 := Lib.hid hk2
  have HJ2 := Lib.hid j2
  clear kb2 kf2 kx2 ky2 cf cx cy hk2 j2
  have hB2 : W.heap.size ≤ w2.heap.size := by omega
  obtain ⟨tm, htm⟩ : ∃ tm : Nat → Part → Array Value, tm = fun q p => #[.func (.yield l) #[] #[], .pointer (some ⟨bf, 0, none⟩), .pointer (some ⟨bx, 0, none⟩), .pointer (some ⟨bY, 0, none⟩), .pointer (some ⟨W.heap.size, 0, none⟩), .pointer (some ⟨q, 0, none⟩), undef, undef, undef, .int .i64 f, .int .i64 X, .int .i64 Y,
      .func (.func 104) #[] #[.pointer (some ⟨c0, 0, none⟩), .pointer (some ⟨c1, 0, none⟩), .pointer (some ⟨c2, 0, none⟩)], .agg #[.int .i64 p.1, .int .i64 p.2.1, .int .i64 p.2.2], undef, undef, undef, undef, undef, undef, undef, undef, undef, undef, undef, undef, undef, undef, undef, undef, undef, undef, undef, undef, undef, undef, undef, undef, undef, undef, undef, undef, undef, undef, undef, undef, undef, undef, undef, undef, undef] := ⟨_, rfl⟩
  have HTM := Lib.hid htm
  clear htm
  refine range_outer (gf := 104) rfl (enters_of Try.func104 (by kernel_rfl) rfl)
    (luma_seq S T f X Y c0 c1 c2 w2 hf hX0 hX1 hY0 hY1 k0 k1 k2 (fun h => by have := hS _ h; omega) (fun h => by have := hS _ h; omega) (fun h => by have := hS _ h; omega) (fun _ h => by have := hS _ h; omega) (fun _ h => by have := hT _ h; omega))
    (Below.refl _ _) (fun k x hx => by obtain ⟨_, rfl⟩ := lumaA_inv f X Y hx; rfl) (fun _ h => by have := hT _ h; omega)
    (fun k V => J k V ∧ kept V) (fun c k V => c = .ret ∧ Jx k V)
    ((hJ.mono hB2).and hkA) (fun c => (Ab.pure _ _ (fun _ => c = .ret)).and (hJx.mono hB2)) ⟨HJ2.out, HK2.out⟩
    (fun k a' V => ∃ q, (w2.heap.size ≤ q ∧ a' = { tmps := tm q (lumaP f X Y k), defers := [] }) ∧
      V.heap[q]? = some (.cells #[.int .i64 (lumaP f X Y k).1, .int .i64 (lumaP f X Y k).2.1, .int .i64 (lumaP f X Y k).2.2] 100 (0, 0)) ∧ J k V ∧ kept V) ?hAft ?assign ?body ?done ?stop
  case hAft =>
    rintro k a' j A B row ⟨q, ⟨h1, h2⟩, h3, h5, h6⟩ hg hr
    refine ⟨q, ⟨h1, h2⟩, blk_kept h3 hg (fun e => ?_), (hJ.mono hB2) k A B row h5 hg hr, hkA k A B row h6 hg hr⟩
    rcases hr _ e.symm with h | ⟨_, o, h7, h8⟩
    · have := hT _ h; omega
    · rw [h3] at h7; cases h7; cases h8
  case assign =>
    rintro l' k x V hx ⟨hj, hk⟩
    obtain ⟨hk4, rfl⟩ := lumaA_inv f X Y hx
    dsimp only [encP]
    have hl := World.alloc_heap_new V (.cells #[.int .i64 (lumaP f X Y k).1, .int .i64 (lumaP f X Y k).2.1, .int .i64 (lumaP f X Y k).2.2] 100)
    have hg := World.grownBy_alloc V (.cells #[.int .i64 (lumaP f X Y k).1, .int .i64 (lumaP f X Y k).2.1, .int .i64 (lumaP f X Y k).2.2] 100) none
    obtain ⟨p, hp⟩ : ∃ p, lumaP f X Y k = p := ⟨_, rfl⟩
    rw [hp] at hl hg ⊢
    gi_wp2
    exact ⟨KB.none hg, V.heap.size, ⟨hks hk, by rw [HTM.out]⟩, hl, hJ.new hj hg, hkN hk hg⟩
  case body =>
    rintro l' k x a' V hx hl hr ⟨q, ⟨h1, rfl⟩, h3, h5, h6⟩
    obtain ⟨hk4, rfl⟩ := lumaA_inv f X Y hx
    obtain ⟨fn, tmps, assign, body, hy, hR⟩ := hY _ _ V (partsA_l f X Y (lumaA_at f X Y k hk4)) h5
    have hkb := h6
    rw [HKE.out] at hkb
    have HKB := Lib.hid hkb
    have HQ := Lib.hid h3
    have HK := Lib.hid h6
    have HJ5 := Lib.hid h5
    have cb := blk_cell hkb.2.1 0
    have c30 := blk_cell h3 0
    have c31 := blk_cell h3 1
    have c32 := blk_cell h3 2
    simp only [List.getElem?_toArray, List.getElem?_cons_zero, List.getElem?_cons_succ] at cb c30 c31 c32
    clear hkb h3 h6 h5 hx
    obtain ⟨p, hp⟩ : ∃ p, lumaP f X Y k = p := ⟨_, rfl⟩
    rw [HTM.out]
    dsimp only [encP] at hy
    rw [hp] at hy c30 c31 c32 ⊢
    gi_wp2
    refine hR.mono ?_
    rintro e W3 ⟨hk3, ⟨rfl, hJ3⟩ | ⟨rfl, hJx3⟩⟩
    · gi_wp2
      exact ⟨hk3.mono hB2, hJ3, hkK HK.out hk3.kc⟩
    · gi_wp2
      exact ⟨hk3.mono hB2, rfl, hJx3⟩
  case stop =>
    rintro c k V h0 hk ⟨rfl, hJx4⟩ hD
    gi_wp2
    refine ⟨by simp, .inl ⟨_, _, rfl, run_takeDeferred hD, ?_⟩⟩
    exact ⟨_, results_none rfl _ _ _, ⟨_, rfl⟩, .inr ⟨k, h0, by rw [partsA_len]; rw [lumaA_len] at hk; omega, hJx.put _ hJx4 hB2 hD rfl⟩⟩
  case done =>
    rintro V ⟨hJ4, hk4⟩ hD
    have HK4 := Lib.hid hk4
    have HJ4 := Lib.hid hJ4
    have HD4 := Lib.hid hD
    rw [HKE.out] at hk4
    have HKB := Lib.hid hk4
    clear hk4 hJ4 hD HTM
    gi_wp2
    have hB0 : V.drew.cell? ⟨bf, 0, none⟩ = some (.int .i64 f) := by rw [World.cell?_drew, blk_cell HKB.out.2.2.1]; rfl
    refine wpIn_region_mix (fun w' => w'.cell? ⟨bf, 0, none⟩ = some (.int .i64 f)) [5] [(0, true), (2, true), (1, false), (3, false), (4, true), (5, false)] hwf (by kernel_rfl) (by kernel_rfl) rfl (by kernel_rfl) hB0 ?_
    iterate 2 (refine mix_q rfl rfl (fun w' hB => by go_simp; rfl) ?_; simp only [Act.put, List.setIfInBounds_toArray, List.set_cons_succ, List.set_cons_zero])
    refine mix_e rfl rfl ?_
    go_simp
    refine (callsIn_wide.2 (wide_any _ _)).mono ?_
    rintro e w' ⟨rfl, rfl⟩
    refine ⟨hB0, ?_⟩
    refine mix_e rfl rfl ?_
    go_simp
    refine (callsIn_wide.2 (high_any _ _)).mono ?_
    rintro e w' ⟨rfl, rfl⟩
    refine ⟨hB0, ?_⟩
    refine mix_q rfl rfl (fun w' hB => by go_simp; rfl) ?_
    simp only [Act.put, List.setIfInBounds_toArray, List.set_cons_succ, List.set_cons_zero]
    refine mix_e rfl rfl ?_
    go_simp
    refine mix_nil ?_
    obtain ⟨all, hal⟩ : ∃ all, wideS f * (wideS f * 9 / 11) = all := ⟨_, rfl⟩
    have hall : 0 ≤ all ∧ all ≤ 101376 := by rw [← hal]; rcases hf with rfl | rfl <;> decide
    have hcp : ∀ i : Nat, chrP f X Y i = ((i : Int) + 5, all + (i : Int) * all / 4 + Y / 2 * (wideS f / 2) + X / 2, wideS f / 2) := fun i => by unfold chrP; rw [hal]
    have HCP := Lib.hid hcp
    rw [hal, w64 (n := all) (by omega) (by omega)]
    have hJ0 := hJ.new HJ4.out (grown_drew V none)
    have hK0 := hkN HK4.out (grown_drew V none)
    have hD0 : V.drew.heap[w2.heap.size]? = some (.deferred (some [])) := HD4.out
    clear hcp hB0 hal
    generalize V.drew = V0 at *
    gi_wp2
    gi_loopw [23] (fun i wr => ∃ k : Nat, k ≤ 2 ∧ i = .int .i64 k ∧ J (k + 4) wr ∧ kept wr ∧ wr.heap[w2.heap.size]? = some (.deferred (some []))) (fun i _ => 4 - (intOf i).toNat)
    case atStart => exact ⟨0, by omega, rfl, hJ0, hK0, hD0⟩
    case round =>
      obtain ⟨k, hk, rfl, hJk, hKk, hDk⟩ := hrel
      clear hJ0 hK0 hD0
      have HJK := Lib.hid hJk
      have HKK := Lib.hid hKk
      have HDK := Lib.hid hDk
      rw [HKE.out] at hKk
      have HKB5 := Lib.hid hKk
      clear hJk hKk hDk
      have cf := blk_cell HKB5.out.2.2.1 0
      simp only [List.getElem?_toArray, List.getElem?_cons_zero] at cf
      by_cases hlt : k < 2
      · have hkl : (k : Int) < 2 := by omega
        have hm : 0 ≤ (k : Int) * all := Int.mul_nonneg (by omega) hall.1
        have hm2 : (k : Int) * all ≤ 2 * 101376 := Int.mul_le_mul (by omega) hall.2 hall.1 (by omega)
        gi_wp2_with (gi_at_call 80; refine (callsIn_wide.2 (wide_any _ _)).mono ?_; rintro e w' ⟨rfl, rfl⟩)
        obtain ⟨pl, hpl⟩ : ∃ pl, all + (k : Int) * all / 4 = pl := ⟨_, rfl⟩
        obtain ⟨st, hst⟩ : ∃ st, wideS f / 2 = st := ⟨_, rfl⟩
        obtain ⟨p, hp⟩ : ∃ p, chrP f X Y k = p := ⟨_, rfl⟩
        have hp' := (HCP.out k).symm.trans hp
        rw [hpl, hst] at hp'
        have hb1 : 0 ≤ pl ∧ pl ≤ 1000000 ∧ 0 ≤ st ∧ st ≤ 1000 := by omega
        try rw [hpl]
        try rw [hst]
        have hnew := World.alloc_heap_new wr (.cells #[.int .i64 pl, .int .i64 st] 114)
        have hg := World.grownBy_alloc wr (.cells #[.int .i64 pl, .int .i64 st] 114) none
        have hD6 := blk_kept HDK.out hg (by simp)
        have hK6 := hkN HKK.out hg
        have hJ6 := hJ.new HJK.out hg
        generalize wr.alloc (.cells #[.int .i64 pl, .int .i64 st] 114) = W6 at *
        have hB6 : W6.drew.cell? ⟨wr.heap.size, 0, none⟩ = some (.int .i64 pl) ∧ W6.drew.cell? ⟨wr.heap.size, 1, none⟩ = some (.int .i64 st) ∧ W6.drew.cell? ⟨W.heap.size, 0, none⟩ = some (.func (.yield l) #[] #[]) ∧ W6.drew.cell? ⟨bx, 0, none⟩ = some (.int .i64 X) ∧ W6.drew.cell? ⟨bY, 0, none⟩ = some (.int .i64 Y) := by
          have h := hK6
          rw [HKE.out] at h
          exact ⟨by rw [World.cell?_drew, blk_cell hnew]; rfl, by rw [World.cell?_drew, blk_cell hnew]; rfl, by rw [World.cell?_drew, blk_cell h.2.1]; rfl, by rw [World.cell?_drew, blk_cell h.2.2.2.1]; rfl, by rw [World.cell?_drew, blk_cell h.2.2.2.2]; rfl⟩
        have HJ6 := Lib.hid hJ6
        have HK6 := Lib.hid hK6
        have HD6 := Lib.hid hD6
        have HN6 := Lib.hid hnew
        clear hJ6 hK6 hD6 hnew cf hg hpl hst
        refine wpIn_region_mix (fun w' => w'.cell? ⟨wr.heap.size, 0, none⟩ = some (.int .i64 pl) ∧ w'.cell? ⟨wr.heap.size, 1, none⟩ = some (.int .i64 st) ∧ w'.cell? ⟨W.heap.size, 0, none⟩ = some (.func (.yield l) #[] #[]) ∧ w'.cell? ⟨bx, 0, none⟩ = some (.int .i64 X) ∧ w'.cell? ⟨bY, 0, none⟩ = some (.int .i64 Y)) [12, 13]
          [(0, true), (1, true), (2, true), (3, true), (4, true), (5, true), (6, true), (7, true), (9, true), (10, true), (8, false), (11, true), (12, false), (13, false)] hwf (by kernel_rfl) (by kernel_rfl) rfl (by kernel_rfl) hB6 ?_
        iterate 10 (refine mix_q rfl rfl (fun w' hB => by obtain ⟨b0, b1, b2, b3, b4⟩ := hB; go_simp; rfl) ?_; simp only [Act.put, List.setIfInBounds_toArray, List.set_cons_succ, List.set_cons_zero])
        refine mix_e rfl rfl ?_
        simp (disch := omega) only [w64, tmod_in, tdiv_in]
        go_simp
        refine (callsIn_wide.2 (planeAt_any pl st (X / 2) (Y / 2) W6.drew hb1.1 hb1.2.1 hb1.2.2.1 hb1.2.2.2 (by omega) (by omega) (by omega) (by omega))).mono ?_
        rintro e w2' ⟨rfl, hb7⟩
        have hg7 : W6.grownBy w2' none := (grown_drew W6 none).trans (below_grown hb7 none)
        have hN7 := blk_kept HN6.out hg7 (by simp)
        have HK7 := Lib.hid (hkN HK6.out hg7)
        have HD7 := Lib.hid (blk_kept HD6.out hg7 (by simp))
        have hB7 : w2'.cell? ⟨wr.heap.size, 0, none⟩ = some (.int .i64 pl) ∧ w2'.cell? ⟨wr.heap.size, 1, none⟩ = some (.int .i64 st) ∧ w2'.cell? ⟨W.heap.size, 0, none⟩ = some (.func (.yield l) #[] #[]) ∧ w2'.cell? ⟨bx, 0, none⟩ = some (.int .i64 X) ∧ w2'.cell? ⟨bY, 0, none⟩ = some (.int .i64 Y) := by
          have h := HK7.out
          rw [HKE.out] at h
          exact ⟨by rw [blk_cell hN7]; rfl, by rw [blk_cell hN7]; rfl, by rw [blk_cell h.2.1]; rfl, by rw [blk_cell h.2.2.2.1]; rfl, by rw [blk_cell h.2.2.2.2]; rfl⟩
        refine ⟨hB7, ?_⟩
        clear hb7 hN7
        have hJ7 := hJ.new HJ6.out hg7
        have hat := partsA_c f X Y hlt
        rw [hp] at hat
        obtain ⟨fn, tmps, assign, body, hy, hR⟩ := hY _ _ w2' hat hJ7
        rw [← hp'] at hy
        dsimp only [encP] at hy
        clear hg7 hJ7
        refine mix_q rfl rfl (fun w' hB => by go_simp; rfl) ?_
        simp only [Act.put, List.setIfInBounds_toArray, List.set_cons_succ, List.set_cons_zero]
        refine mix_e rfl rfl ?_
        go_simp
        refine hR.mono ?_
        rintro e W3 ⟨hk3, ⟨rfl, hJ3⟩ | ⟨rfl, hJx3⟩⟩
        · refine mix_e rfl rfl ?_
          go_simp
          refine mix_nil ?_
          have hK3 := hkK HK7.out hk3.kc
          have hD3 := hk3.keeps.same _ _ hB2 HD7.out rfl
          have HK3 := Lib.hid hK3
          have HD3 := Lib.hid hD3
          have HJ3 := Lib.hid hJ3
          clear hK3 hD3 hJ3
          gi_wp2
          go_roundw
          case rel => exact ⟨k + 1, by omega, by go_num, (by have := HJ3.out; rwa [show k + 4 + 1 = k + 1 + 4 by omega] at this), HK3.out, HD3.out⟩
          case measure => simp [intOf]; omega
        · refine mix_e rfl rfl ?_
          go_simp
          refine mix_nil ?_
          have hD3 := hk3.keeps.same _ _ hB2 HD7.out rfl
          have HJ3 := Lib.hid hJx3
          clear hJx3
          gi_wp2
          refine ⟨by simp, .inl ⟨_, _, rfl, run_takeDeferred hD3, ?_⟩⟩
          exact ⟨_, results_none rfl _ _ _, ⟨_, rfl⟩, .inr ⟨k + 4 + 1, by omega, by rw [partsA_len]; omega, hJx.put _ HJ3.out hB2 hD3 rfl⟩⟩
      · have e : k = 2 := by omega
        subst e
        gi_wp2
        refine ⟨by simp, .inl ⟨_, _, rfl, run_takeDeferred HDK.out, ?_⟩⟩
        exact ⟨_, results_none rfl _ _ _, ⟨_, rfl⟩, .inl (hJ.put _ HJK.out hB2 HDK.out rfl)⟩
end Go.Proofs.Ytcieggaihelacaa
