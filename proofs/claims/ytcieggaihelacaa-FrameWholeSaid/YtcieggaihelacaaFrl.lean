/- The contract of the program's Place: by its iterator over all six blocks. -/
import Derived.Test.YtcieggaihelacaaFrk
set_option linter.unusedSimpArgs false
set_option linter.unusedVariables false
namespace Go.Proofs.Ytcieggaihelacaa
open Go.RowKit Go.Shelf
attribute [local go_sem] Oper.semAt_some

theorem below_of_grown {n : Nat} {A B : World} (h : A.grownBy B none) (hn : n ≤ A.heap.size) : Below n A B := (grown_below h).mono hn
theorem partsA_inv {f X Y : Int} (hf : f = 0 ∨ f = 1) {k : Nat} {x : Array Value} (h : (partsA f X Y)[k]? = some x) : k < 6 ∧ x = encP ((k : Int) + 1, plcV f X Y ((k : Int) + 1), plcS f ((k : Int) + 1)) := by
  have hk : k < 6 := by
    rcases Nat.lt_or_ge k 6 with h' | h'
    · exact h'
    · rw [List.getElem?_eq_none (by rw [partsA_len]; omega)] at h; cases h
  refine ⟨hk, ?_⟩
  have : k = 0 ∨ k = 1 ∨ k = 2 ∨ k = 3 ∨ k = 4 ∨ k = 5 := by omega
  rcases hf with rfl | rfl <;> rcases this with rfl | rfl | rfl | rfl | rfl | rfl <;>
    (refine Option.some.inj (h.symm.trans ?_)
     simp [partsA, lumaA, lumaP, chrP, plcV, plcS, wideS, highS, encP]
     try omega)

set_option maxRecDepth 100000 in
set_option maxHeartbeats 2000000 in
theorem place_any (f g a b : Int) (w : World) (ha : -9223372036854775808 ≤ a) (ha2 : a ≤ 9223372036854775807) :
    Calls Try.prog 48 #[.int .i64 f, .int .i64 g, .int .i64 a, .int .i64 b] w fun e w' => e = .returned (.tuple #[.int .i64 (plA f g a b), .int .i64 (plS f g a b), .int .i64 (plE f g a b)]) ∧ Below w.heap.size w w' := by
  refine (callsIn_wide (n := 0)).1 ?_
  have hwf : ∀ f, Fence.wide.fn f := fun _ => trivial
  have hwd : Fence.wide.depth = none := rfl
  -- the four rows of the call
  obtain ⟨W0, hW0⟩ : ∃ W0, (((w.alloc (.cells #[.int .i64 b] 3)).alloc (.cells #[.int .i64 0] 3)).alloc (.cells #[.int .i64 0] 3)).alloc (.cells #[.int .i64 0] 28) = W0 := ⟨_, rfl⟩
  have z1 := World.alloc_heap_new w (.cells #[.int .i64 b] 3)
  have z2 := World.alloc_heap_new (w.alloc (.cells #[.int .i64 b] 3)) (.cells #[.int .i64 0] 3)
  have z3 := World.alloc_heap_new ((w.alloc (.cells #[.int .i64 b] 3)).alloc (.cells #[.int .i64 0] 3)) (.cells #[.int .i64 0] 3)
  have z4 := World.alloc_heap_new (((w.alloc (.cells #[.int .i64 b] 3)).alloc (.cells #[.int .i64 0] 3)).alloc (.cells #[.int .i64 0] 3)) (.cells #[.int .i64 0] 28)
  have hs0 : W0.heap.size = w.heap.size + 4 := by rw [← hW0]; simp
  have y1 : W0.heap[w.heap.size]? = some (.cells #[.int .i64 b] 3 (0, 0)) := by
    rw [← hW0]
    exact (Below.heap_alloc _ _ _ (by simp <;> omega)).trans ((Below.heap_alloc _ _ _ (by simp <;> omega)).trans ((Below.heap_alloc _ _ _ (by simp)).trans z1))
  have y2 : W0.heap[w.heap.size + 1]? = some (.cells #[.int .i64 0] 3 (0, 0)) := by
    rw [← hW0]
    refine (Below.heap_alloc _ _ _ (by simp <;> omega)).trans ((Below.heap_alloc _ _ _ (by simp)).trans ?_)
    simpa using z2
  have y3 : W0.heap[w.heap.size + 1 + 1]? = some (.cells #[.int .i64 0] 3 (0, 0)) := by
    rw [← hW0]
    refine (Below.heap_alloc _ _ _ (by simp)).trans ?_
    simpa using z3
  have y4 : W0.heap[w.heap.size + 1 + 1 + 1]? = some (.cells #[.int .i64 0] 28 (0, 0)) := by
    rw [← hW0]
    simpa using z4
  have hb0 : Below w.heap.size w W0 := by
    rw [← hW0]
    exact ((((Below.refl _ w).alloc (Nat.le_refl _) _).alloc (by simp) _).alloc (by simp <;> omega) _).alloc (by simp <;> omega) _
  have HW0 := Lib.hid hW0
  have Y1 := Lib.hid y1
  have Y2 := Lib.hid y2
  have Y3 := Lib.hid y3
  have Y4 := Lib.hid y4
  clear z1 z2 z3 z4 y1 y2 y3 y4 hW0
  (refine callsIn_of_wp_marks Try.func48 rfl trivial ?_ rfl; simp only [Try.ntmps48, List.size_toArray, List.length_cons, List.length_nil, Nat.reduceAdd, Nat.reduceSub, Array.replicate_succ, Array.replicate_zero, List.push_toArray, List.append_toArray, List.nil_append, List.cons_append])
  by_cases hc : cornE f g a ≠ 0
  · have hpl : plA f g a b = 0 ∧ plS f g a b = 0 ∧ plE f g a b = cornE f g a := by rcases pl_cases f g a b with ⟨_, hc', e1, e2, e3⟩ | ⟨hc', hn, e1, e2, e3⟩ | ⟨hc', hn, e1, e2, e3⟩ <;> first | exact ⟨e2, e3, e1⟩ | exact absurd hc' hc
    rw [hpl.1, hpl.2.1, hpl.2.2]; clear hpl
    have ht : (cornE f g a != 0) = true := by simpa using hc
    clear hc
    gi_wp2_with (gi_at_call 46; refine (callsIn_wide.2 (Corner_any _ _ _ _ ha ha2)).mono ?_; rw [HW0.out]; rintro e w1 ⟨rfl, hb⟩; have x2 := blk_kept Y2.out (below_grown hb none) (by simp); have x3 := blk_kept Y3.out (below_grown hb none) (by simp); have x4 := blk_kept Y4.out (below_grown hb none) (by simp); have c2 := blk_cell x2 0; have c3 := blk_cell x3 0; have c4 := blk_cell x4 0; have f2 := blk_free x2 0; have f3 := blk_free x3 0; have f4 := blk_free x4 0; simp only [List.getElem?_toArray, List.getElem?_cons_zero] at c2 c3 c4)
    refine ⟨_, by simp [results, Try.results48, go_sem, f2, f3, f4, c2, c3, c4]; rfl, ?_⟩
    refine ⟨by simp, ?_⟩
    exact ((((hb0.trans (hb.mono hb0.size)).setCell (p := ⟨w.heap.size + 1, 0, none⟩) (by simp) _).setCell (p := ⟨w.heap.size + 1 + 1, 0, none⟩) (by simp <;> omega) _).setCell (p := ⟨w.heap.size + 1 + 1 + 1, 0, none⟩) (by simp <;> omega) _)
  · have hc : cornE f g a = 0 := by simpa using hc
    obtain ⟨hf, hg, ha3, hX, hY⟩ := corn_ok hc
    obtain ⟨x0, x1, y0, y1⟩ := corner_bd hf hg ha3
    have hwh : wideS f ≤ 352 ∧ highS f ≤ 288 := by rcases fmt_cases f with ⟨_, h1, h2, _⟩ | ⟨_, h1, h2, _⟩ | ⟨_, _, h1, h2, _⟩ <;> omega
    have hpl : (1 ≤ b ∧ b ≤ 6 ∧ plA f g a b = plcV f (cornerX f g a) (cornerY g a) b ∧ plS f g a b = plcS f b ∧ plE f g a b = 0) ∨ (¬ (1 ≤ b ∧ b ≤ 6) ∧ plA f g a b = 0 ∧ plS f g a b = 0 ∧ plE f g a b = 3) := by
      rcases pl_cases f g a b with ⟨_, hc', e1, e2, e3⟩ | ⟨hc', hn, e1, e2, e3⟩ | ⟨hc', hn, e1, e2, e3⟩
      · exact absurd hc hc'
      · exact .inr ⟨hn, e2, e3, e1⟩
      · exact .inl ⟨hn.1, hn.2, e2, e3, e1⟩
    have HC := Lib.hid (show cornX f g a = cornerX f g a ∧ cornY f g a = cornerY g a ∧ cornE f g a = 0 from ⟨hX, hY, hc⟩)
    generalize plA f g a b = rA at *
    generalize plS f g a b = rS at *
    generalize plE f g a b = rE at *
    obtain ⟨X, eX⟩ : ∃ X, cornerX f g a = X := ⟨_, rfl⟩
    obtain ⟨Y, eY⟩ : ∃ Y, cornerY g a = Y := ⟨_, rfl⟩
    rw [eX] at hpl x0 x1 HC
    rw [eY] at hpl y0 y1 HC
    have HPL := Lib.hid hpl
    clear hpl hX hY hc eX eY ha3 hg
    gi_wp2_with (first
      | (gi_at_call 46; refine (callsIn_wide.2 (Corner_any _ _ _ _ ha ha2)).mono ?_; rw [HW0.out, HC.out.1, HC.out.2.1, HC.out.2.2]; rintro e w1 ⟨rfl, hb⟩)
      | (gi_at_call 87; refine (callsIn_wide.2 (parts_any _ _ _ _)).mono ?_; rintro e w2 ⟨c0, c1, c2, rfl, k0, k1, k2, l0, l1, l2, hb2⟩))
    have hsz1 := hb.size
    have hsz2 := hb2.size
    have hz1 : Below w.heap.size w w1 := hb0.trans (hb.mono hb0.size)
    have hz2 : Below w.heap.size w w2 := hz1.trans (hb2.mono hz1.size)
    obtain ⟨r8, h8⟩ : ∃ r8, w.heap.size + 1 = r8 := ⟨_, rfl⟩
    have q1 := blk_kept (blk_kept Y1.out (below_grown hb none) (by simp)) (below_grown hb2 none) (by simp)
    have q2 := blk_kept (blk_kept Y2.out (below_grown hb none) (by simp)) (below_grown hb2 none) (by simp)
    have q3 := blk_kept (blk_kept Y3.out (below_grown hb none) (by simp)) (below_grown hb2 none) (by simp)
    have q4 := blk_kept (blk_kept Y4.out (below_grown hb none) (by simp)) (below_grown hb2 none) (by simp)
    obtain ⟨S, hS⟩ : ∃ S : Nat → Prop, S = fun k => k = w.heap.size + 1 ∨ k = w.heap.size + 1 + 1 ∨ k = w.heap.size + 1 + 1 + 1 := ⟨_, rfl⟩
    have hSn : ∀ k, S k → w.heap.size ≤ k ∧ k < w.heap.size + 4 := by rw [hS]; intro k h; omega
    have hS0 : ¬ S w.heap.size := by rw [hS]; omega
    have hS8 : S (w.heap.size + 1) ∧ S (w.heap.size + 1 + 1) ∧ S (w.heap.size + 1 + 1 + 1) := by rw [hS]; simp
    clear hS h8
    obtain ⟨kept, hkept⟩ : ∃ kept : World → Prop, kept = fun V => w2.heap.size ≤ V.heap.size ∧ (V.heap[w.heap.size]? = some (.cells #[.int .i64 b] 3 (0, 0)) ∧ V.heap[w.heap.size + 1]? = some (.cells #[.int .i64 0] 3 (0, 0)) ∧ V.heap[w.heap.size + 1 + 1]? = some (.cells #[.int .i64 0] 3 (0, 0)) ∧ V.heap[w.heap.size + 1 + 1 + 1]? = some (.cells #[.int .i64 0] 28 (0, 0))) ∧ Below w.heap.size w V := ⟨_, rfl⟩
    have hkA : Ab w2.heap.size (fun _ => False) (fun _ V => kept V) := by
      rw [hkept]
      exact Ab.and (fun _ _ _ _ hs hg _ => Nat.le_trans hs hg.size) (((Ab.blk (b := fun _ => w.heap.size) (o := fun _ => .cells #[.int .i64 b] 3 (0, 0)) (fun _ => rfl) (fun _ h => h)).and
        ((Ab.blk (b := fun _ => w.heap.size + 1) (o := fun _ => .cells #[.int .i64 0] 3 (0, 0)) (fun _ => rfl) (fun _ h => h)).and
        ((Ab.blk (b := fun _ => w.heap.size + 1 + 1) (o := fun _ => .cells #[.int .i64 0] 3 (0, 0)) (fun _ => rfl) (fun _ h => h)).and
        (Ab.blk (b := fun _ => w.heap.size + 1 + 1 + 1) (o := fun _ => .cells #[.int .i64 0] 28 (0, 0)) (fun _ => rfl) (fun _ h => h))))).and (Ab.below (Nat.le_refl _) (by omega) (fun _ h => h.elim)))
    have hk2 : kept w2 := by rw [hkept]; exact ⟨Nat.le_refl _, ⟨q1, q2, q3, q4⟩, hz2⟩
    have hkN : ∀ {A B : World}, kept A → A.grownBy B none → kept B := fun h hg => hkA 0 _ _ none h hg (fun r e => by cases e)
    have HKE := Lib.hid hkept
    have HK2 := Lib.hid hk2
    clear hkept hk2 q1 q2 q3 q4
    obtain ⟨fin, hfin⟩ : ∃ fin : Nat → World → Prop, fin = fun (k : Nat) V => ((k : Int) = b ∧ V.heap[w.heap.size + 1]? = some (.cells #[.int .i64 (plcV f X Y b)] 3 (0, 0)) ∧ V.heap[w.heap.size + 1 + 1]? = some (.cells #[.int .i64 (plcS f b)] 3 (0, 0)) ∧ V.heap[w.heap.size + 1 + 1 + 1]? = some (.cells #[.int .i64 0] 28 (0, 0))) ∧ Below w.heap.size w V := ⟨_, rfl⟩
    have hfA : Ab w2.heap.size (fun _ => False) fin := by
      rw [hfin]
      exact ((Ab.pure _ _ (fun k => (k : Int) = b)).and ((Ab.blk (b := fun _ => w.heap.size + 1) (o := fun _ => .cells #[.int .i64 (plcV f X Y b)] 3 (0, 0)) (fun _ => rfl) (fun _ h => h)).and
        ((Ab.blk (b := fun _ => w.heap.size + 1 + 1) (o := fun _ => .cells #[.int .i64 (plcS f b)] 3 (0, 0)) (fun _ => rfl) (fun _ h => h)).and
        (Ab.blk (b := fun _ => w.heap.size + 1 + 1 + 1) (o := fun _ => .cells #[.int .i64 0] 28 (0, 0)) (fun _ => rfl) (fun _ h => h))))).and (Ab.below (Nat.le_refl _) (by omega) (fun _ h => h.elim))
    have HFE := Lib.hid hfin
    clear hfin
    obtain ⟨tm, htm⟩ : ∃ tm : Nat → Part → Array Value, tm = fun q p => #[.int .i64 f, .int .i64 g, .int .i64 a, .int .i64 b, undef, undef, undef, .pointer (some ⟨w.heap.size, 0, none⟩), .pointer (some ⟨w.heap.size + 1, 0, none⟩), .pointer (some ⟨w.heap.size + 1 + 1, 0, none⟩), .pointer (some ⟨w.heap.size + 1 + 1 + 1, 0, none⟩),
      .int .i64 X, .int .i64 Y, .int .i64 0, .pointer (some ⟨q, 0, none⟩), .tuple #[.int .i64 X, .int .i64 Y, .int .i64 0], .int .i64 f, .int .i64 g, .int .i64 a, .tuple #[.int .i64 X, .int .i64 Y, .int .i64 0], .int .i64 X, .int .i64 Y, .int .i64 0, .int .i64 0, .bool false, undef, .int .i64 f, .int .i64 X, .int .i64 Y,
      .func (.func 98) #[] #[.pointer (some ⟨c0, 0, none⟩), .pointer (some ⟨c1, 0, none⟩), .pointer (some ⟨c2, 0, none⟩)], .agg #[.int .i64 p.1, .int .i64 p.2.1, .int .i64 p.2.2], undef, undef, undef, undef, undef, undef, undef, undef] := ⟨_, rfl⟩
    have HTM := Lib.hid htm
    clear htm
    refine range_outer (gf := 98) rfl (enters_of Try.func98 (by kernel_rfl) rfl)
      (parts_seq S (fun _ => False) f X Y c0 c1 c2 w2 hf x0 (by omega) y0 (by omega) k0 k1 k2 (fun h => by have := hSn _ h; omega) (fun h => by have := hSn _ h; omega) (fun h => by have := hSn _ h; omega) (fun h => h) (fun h => h) (fun h => h) (fun _ h => by have := hSn _ h; omega) (fun _ h => h.elim))
      (Below.refl _ _) (fun k x hx => by obtain ⟨_, rfl⟩ := partsA_inv hf hx; rfl) (fun _ h => h.elim)
      (fun k V => kept V ∧ ∀ j : Nat, j < k → (j : Int) + 1 ≠ b) (fun c k V => c = .ret ∧ fin k V)
      (hkA.and (Ab.pure _ _ (fun k => ∀ j : Nat, j < k → (j : Int) + 1 ≠ b))) (fun c => (Ab.pure _ _ (fun _ => c = .ret)).and hfA) ⟨HK2.out, fun j h => by omega⟩
      (fun k a' V => ∃ q, (w2.heap.size ≤ q ∧ a' = { tmps := tm q ((k : Int) + 1, plcV f X Y ((k : Int) + 1), plcS f ((k : Int) + 1)), defers := [] }) ∧
        V.heap[q]? = some (.cells #[.int .i64 ((k : Int) + 1), .int .i64 (plcV f X Y ((k : Int) + 1)), .int .i64 (plcS f ((k : Int) + 1))] 100 (0, 0)) ∧ kept V ∧ ∀ j : Nat, j < k → (j : Int) + 1 ≠ b) ?hAft ?assign ?body ?done ?stop
    case hAft =>
      rintro k a' j A B row ⟨q, ⟨h1, h2⟩, h3, h5, h6⟩ hg hr
      refine ⟨q, ⟨h1, h2⟩, blk_kept h3 hg (fun e => ?_), hkA k A B row h5 hg hr, h6⟩
      rcases hr _ e.symm with h | ⟨_, o, h7, h8⟩
      · exact h
      · rw [h3] at h7; cases h7; cases h8
    case assign =>
      rintro l' k x V hx ⟨hk, hno⟩
      obtain ⟨hk6, rfl⟩ := partsA_inv hf hx
      have hks := hk
      rw [HKE.out] at hks
      have hs := hks.1
      clear hks
      dsimp only [encP]
      generalize plcV f X Y ((k : Int) + 1) = pv
      generalize plcS f ((k : Int) + 1) = ps
      have hl := World.alloc_heap_new V (.cells #[.int .i64 ((k : Int) + 1), .int .i64 pv, .int .i64 ps] 100)
      have hg := World.grownBy_alloc V (.cells #[.int .i64 ((k : Int) + 1), .int .i64 pv, .int .i64 ps] 100) none
      gi_wp2
      exact ⟨KB.none hg, V.heap.size, ⟨hs, by rw [HTM.out]⟩, hl, hkN hk hg, hno⟩
    case body =>
      rintro l' k x a' V hx hl hr ⟨q, ⟨h1, rfl⟩, h3, h5, h6⟩
      obtain ⟨hk6, rfl⟩ := partsA_inv hf hx
      have h5' := h5
      rw [HKE.out] at h5'
      have HKB := Lib.hid h5'
      have HQ := Lib.hid h3
      have HK := Lib.hid h5
      have HNO := Lib.hid h6
      have c30 := blk_cell h3 0
      have cb := blk_cell HKB.out.2.1.1 0
      simp only [List.getElem?_toArray, List.getElem?_cons_zero, List.getElem?_cons_succ] at cb c30
      clear h5' h3 h5 h6 hx hr
      rw [HTM.out]
      by_cases hkb : (k : Int) + 1 = b
      · have ht : ((k : Int) + 1 == b) = true := by simpa using hkb
        generalize hpv : plcV f X Y ((k : Int) + 1) = pv at *
        generalize hps : plcS f ((k : Int) + 1) = ps at *
        gi_wp2
        obtain ⟨V0, hV0⟩ : ∃ V0, V.drew = V0 := ⟨_, rfl⟩
        have kv : KB S w2.heap.size V V0 := by rw [← hV0]; exact KB.none (grown_drew V none)
        have v1 : V0.heap[q]? = some (.cells #[.int .i64 ((k : Int) + 1), .int .i64 pv, .int .i64 ps] 100 (0, 0)) := by rw [← hV0]; exact HQ.out
        have v2 : V0.heap[w.heap.size + 1]? = some (.cells #[.int .i64 0] 3 (0, 0)) := by rw [← hV0]; exact HKB.out.2.1.2.1
        have v3 : V0.heap[w.heap.size + 1 + 1]? = some (.cells #[.int .i64 0] 3 (0, 0)) := by rw [← hV0]; exact HKB.out.2.1.2.2.1
        have v4 : V0.heap[w.heap.size + 1 + 1 + 1]? = some (.cells #[.int .i64 0] 28 (0, 0)) := by rw [← hV0]; exact HKB.out.2.1.2.2.2
        have vb : Below w.heap.size w V0 := by rw [← hV0]; exact HKB.out.2.2.trans (below_of_grown (grown_drew V none) (Nat.le_trans (by omega) HKB.out.1))
        have c2 := blk_cell v2 0
        have c3 := blk_cell v3 0
        have c4 := blk_cell v4 0
        have f2 := blk_free v2 0
        have f3 := blk_free v3 0
        have f4 := blk_free v4 0
        simp only [List.getElem?_toArray, List.getElem?_cons_zero] at c2 c3 c4
        refine wpIn_region_mix (fun w' => w'.cell? ⟨q, 1, none⟩ = some (.int .i64 pv) ∧ w'.cell? ⟨q, 2, none⟩ = some (.int .i64 ps)) [5, 6] [(0, true), (1, true), (2, true), (3, true), (4, false), (5, false), (6, false)] (fun _ => trivial) (by kernel_rfl) (by kernel_rfl) rfl (by kernel_rfl) ?hB ?_
        case hB => rw [hV0]; exact ⟨by rw [blk_cell v1]; rfl, by rw [blk_cell v1]; rfl⟩
        rw [hV0]
        clear hV0
        iterate 4 (refine mix_q rfl rfl (fun w' hB => by obtain ⟨b0, b1⟩ := hB; go_simp; rfl) ?_; simp only [Act.put, List.setIfInBounds_toArray, List.set_cons_succ, List.set_cons_zero])
        have hq8 : q ≠ w.heap.size + 1 ∧ q ≠ w.heap.size + 1 + 1 ∧ q ≠ w.heap.size + 1 + 1 + 1 := by omega
        refine mix_e rfl rfl ?_
        go_simp
        refine ⟨⟨by rw [blk_cell v1]; rfl, by rw [blk_cell v1]; rfl⟩, ?_⟩
        iterate 2 (refine mix_e rfl rfl ?_; go_simp)
        refine mix_nil ?_
        gi_wp2
        have kb : ∀ {A : World} (r : Nat) (u : Value), S r → KB S w2.heap.size A (A.setCell ⟨r, 0, none⟩ u) := fun r u hr => KB.grown (grown_set _ _ _) (fun j e => by cases e; exact ⟨hr, by have := hSn _ hr; show r < _; omega⟩)
        refine ⟨((kv.trans (kb _ _ hS8.1)).trans (kb _ _ hS8.2.1)).trans (kb _ _ hS8.2.2), rfl, ?_⟩
        rw [HFE.out, ← hkb, hpv, hps]
        refine ⟨⟨by omega, ?_, ?_, ?_⟩, ?_⟩
        · exact blk_kept (blk_kept (blk_set v2 0 (.int .i64 pv)) (grown_set _ _ _) (by simp <;> omega)) (grown_set _ _ _) (by simp <;> omega)
        · exact blk_kept (blk_set (blk_kept v3 (grown_set _ _ _) (by simp <;> omega)) 0 (.int .i64 ps)) (grown_set _ _ _) (by simp <;> omega)
        · exact blk_set (blk_kept (blk_kept v4 (grown_set _ _ _) (by simp <;> omega)) (grown_set _ _ _) (by simp <;> omega)) 0 (.int .i64 0)
        · exact ((vb.setCell (p := ⟨w.heap.size + 1, 0, none⟩) (by simp <;> omega) _).setCell (p := ⟨w.heap.size + 1 + 1, 0, none⟩) (by simp <;> omega) _).setCell (p := ⟨w.heap.size + 1 + 1 + 1, 0, none⟩) (by simp <;> omega) _
      · have ht : ((k : Int) + 1 == b) = false := by simpa using hkb
        generalize plcV f X Y ((k : Int) + 1) = pv at *
        generalize plcS f ((k : Int) + 1) = ps at *
        gi_wp2
        exact ⟨KB.refl _ _ _, HK.out, fun j hj => by rcases Nat.lt_or_ge j k with h | h
                                                     · exact HNO.out j h
                                                     · have : j = k := by omega
                                                       subst this; exact hkb⟩
    case done =>
      rintro V ⟨hk, hno⟩ hD
      rw [HKE.out] at hk
      have hnb : ¬ (1 ≤ b ∧ b ≤ 6) := fun h => hno (b - 1).toNat (by rw [partsA_len]; omega) (by omega)
      obtain ⟨eA, eS, eE⟩ : rA = 0 ∧ rS = 0 ∧ rE = 3 := by
        rcases HPL.out with h | h
        · exact absurd ⟨h.1, h.2.1⟩ hnb
        · exact h.2
      have HE := Lib.hid (And.intro eA (And.intro eS eE))
      have v2 := hk.2.1.2.1
      have v3 := hk.2.1.2.2.1
      have v4 := hk.2.1.2.2.2
      have vb := hk.2.2
      have HD := Lib.hid hD
      clear hk hno hD eA eS eE
      have c2 := blk_cell v2 0
      have c3 := blk_cell v3 0
      have c4 := blk_cell v4 0
      have f2 := blk_free v2 0
      have f3 := blk_free v3 0
      have f4 := blk_free v4 0
      simp only [List.getElem?_toArray, List.getElem?_cons_zero] at c2 c3 c4
      have V2 := Lib.hid v2
      have V3 := Lib.hid v3
      have V4 := Lib.hid v4
      clear v2 v3 v4
      gi_wp2
      have hD3 := blk_kept (blk_kept (blk_kept HD.out (grown_set V ⟨w.heap.size + 1, 0, none⟩ (.int .i64 0)) (by simp <;> omega)) (grown_set _ ⟨w.heap.size + 1 + 1, 0, none⟩ (.int .i64 0)) (by simp <;> omega)) (grown_set _ ⟨w.heap.size + 1 + 1 + 1, 0, none⟩ (.int .i64 3)) (by simp <;> omega)
      have u2 := blk_kept (blk_kept (blk_set V2.out 0 (.int .i64 0)) (grown_set _ ⟨w.heap.size + 1 + 1, 0, none⟩ (.int .i64 0)) (by simp <;> omega)) (grown_set _ ⟨w.heap.size + 1 + 1 + 1, 0, none⟩ (.int .i64 3)) (by simp <;> omega)
      have u3 := blk_kept (blk_set (blk_kept V3.out (grown_set _ ⟨w.heap.size + 1, 0, none⟩ (.int .i64 0)) (by simp <;> omega)) 0 (.int .i64 0)) (grown_set _ ⟨w.heap.size + 1 + 1 + 1, 0, none⟩ (.int .i64 3)) (by simp <;> omega)
      have u4 := blk_set (blk_kept (blk_kept V4.out (grown_set _ ⟨w.heap.size + 1, 0, none⟩ (.int .i64 0)) (by simp <;> omega)) (grown_set _ ⟨w.heap.size + 1 + 1, 0, none⟩ (.int .i64 0)) (by simp <;> omega)) 0 (.int .i64 3)
      have ub := ((vb.setCell (p := ⟨w.heap.size + 1, 0, none⟩) (by simp <;> omega) (.int .i64 0)).setCell (p := ⟨w.heap.size + 1 + 1, 0, none⟩) (by simp <;> omega) (.int .i64 0)).setCell (p := ⟨w.heap.size + 1 + 1 + 1, 0, none⟩) (by simp <;> omega) (.int .i64 3)
      generalize ((V.setCell ⟨w.heap.size + 1, 0, none⟩ (.int .i64 0)).setCell ⟨w.heap.size + 1 + 1, 0, none⟩ (.int .i64 0)).setCell ⟨w.heap.size + 1 + 1 + 1, 0, none⟩ (.int .i64 3) = Z at *
      refine ⟨by simp, .inl ⟨_, _, rfl, run_takeDeferred hD3, ?_⟩⟩
      have hp := grownBy_putObj' Z w2.heap.size (.deferred none)
      have c2 := blk_cell (blk_kept u2 hp (by simp <;> omega)) 0
      have c3 := blk_cell (blk_kept u3 hp (by simp <;> omega)) 0
      have c4 := blk_cell (blk_kept u4 hp (by simp <;> omega)) 0
      simp at c2 c3 c4
      exact ⟨_, by simp [results, Try.results48, go_sem, c2, c3, c4]; rfl, by rw [HE.out.1, HE.out.2.1, HE.out.2.2], ub.grown hp (by have := vb.size; have := ub.size; omega) (fun r e => by cases e; omega)⟩
    case stop =>
      rintro c k V h0 hk ⟨rfl, hf1⟩ hD
      rw [HFE.out] at hf1
      obtain ⟨⟨hkb, u2, u3, u4⟩, ub⟩ := hf1
      rw [partsA_len] at hk
      obtain ⟨eA, eS, eE⟩ : rA = plcV f X Y b ∧ rS = plcS f b ∧ rE = 0 := by rcases HPL.out with h | h <;> first | exact h.2.2 | exact absurd (by omega) h.1
      have HE := Lib.hid (And.intro eA (And.intro eS eE))
      clear eA eS eE
      gi_wp2
      refine ⟨by simp, .inl ⟨_, _, rfl, run_takeDeferred hD, ?_⟩⟩
      have hp := grownBy_putObj' V w2.heap.size (.deferred none)
      have c2 := blk_cell (blk_kept u2 hp (by simp <;> omega)) 0
      have c3 := blk_cell (blk_kept u3 hp (by simp <;> omega)) 0
      have c4 := blk_cell (blk_kept u4 hp (by simp <;> omega)) 0
      simp at c2 c3 c4
      exact ⟨_, by simp [results, Try.results48, go_sem, c2, c3, c4]; rfl, by rw [HE.out.1, HE.out.2.1, HE.out.2.2], ub.grown hp (by have := ub.size; omega) (fun r e => by cases e; omega)⟩
end Go.Proofs.Ytcieggaihelacaa
