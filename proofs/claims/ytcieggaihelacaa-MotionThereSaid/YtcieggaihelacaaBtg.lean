/- Layer 14's examples: awake, MotionHalves, MotionKnown. -/
import Derived.Test.YtcieggaihelacaaBtf
set_option linter.unusedSimpArgs false
set_option linter.unusedVariables false
namespace Go.Proofs.Ytcieggaihelacaa
open Go.RowKit
set_option maxRecDepth 100000
def want1 : List Int := [19, 20, 21, 22, 23, 24, 25, 26]
theorem row1_E : fetE 0 1 2 38016 1 3 0 = 0 := by decide
theorem row1_L : (fetL 0 1 2 chapL 1 3 0).take 8 = want1 := chap_row 0 1 2 1 3 0 want1 row1_E (by decide) (by decide)
theorem rd_want1 (w : World) : Rd .u8 (w.alloc (.cells #[.int .u8 19, .int .u8 20, .int .u8 21, .int .u8 22, .int .u8 23, .int .u8 24, .int .u8 25, .int .u8 26] 5)) (.slice (some ⟨w.heap.size, 0, none⟩) 8 8) want1 := Rd.lit .u8 5 want1 w (by decide)
theorem awake14_any (w : World) : Calls Try.prog 30 #[] w fun e w' => e = .returned (.bool true) ∧ Below w.heap.size w w' := by
  have hh : halfS (-5) = -2 := by decide
  have f1 : fitsE 0 1 1 0 0 = 0 := by decide
  have f2 : fitsE 0 1 1 (-1) 0 = 12 := by decide
  have HH := Lib.hid hh
  have F1 := Lib.hid f1
  have F2 := Lib.hid f2
  have hb := Below.refl w.heap.size w
  clear hh f1 f2
  go_enter Try.func30, Try.ntmps30
  go_wp2_with (first
    | (go_at_call 31; refine (half_any _ _ (by decide) (by decide)).mono ?_; rw [HH.out]; rintro e w' ⟨rfl, rfl⟩)
    | (go_at_call 34; refine (qcif14_any _ _ _).mono ?_; rintro e w1 ⟨rfl, hb'⟩; replace hb := below_nxt hb hb'; clear hb')
    | (go_at_call 26; refine (fits_any _ _ _ _ _ _ (by decide) (by decide) (by decide) (by decide) (by decide) (by decide)).mono ?_; (first | rw [F1.out] | rw [F2.out]); rintro e w2 ⟨rfl, hb'⟩; replace hb := below_nxt hb hb'; clear hb')
    | (go_at_call 35; refine (row14_true 0 1 2 1 3 0 _ want1 _ (rd_want1 _) (by decide) (by decide) (by decide) (by decide) (by decide) (by decide) row1_E row1_L).mono ?_; rintro e w3 ⟨rfl, hb'⟩; replace hb := below_nxt (hb.alloc hb.size (Obj.cells #[.int .u8 19, .int .u8 20, .int .u8 21, .int .u8 22, .int .u8 23, .int .u8 24, .int .u8 25, .int .u8 26] 5)) hb'; clear hb'))
  go_ret
  exact ⟨rfl, hb⟩
theorem motionHalves_any (x : Int) (w : World) (h0 : -9223372036854775808 ≤ x) (h1 : x ≤ 9223372036854775807) : Calls Try.prog 4 #[.int .i64 x] w fun e w' => e = .returned (.bool true) ∧ Below w.heap.size w w' := by
  go_enter Try.func4, Try.ntmps4
  go_wp2_with (first
    | (go_at_call 31; refine (half_any _ _ h0 h1).mono ?_; rintro e w' ⟨rfl, rfl⟩)
    | (go_at_call 32; refine (half_r _ _ h0 h1).mono ?_; rintro e w' ⟨rfl, rfl⟩)
    | (go_at_call 30; refine (awake14_any _).mono ?_; rintro e w1 ⟨rfl, hb⟩))
  go_ret
  exact ⟨rfl, hb⟩
def want7 : List Int := [7, 7, 7, 7, 7, 7, 7, 7]
theorem row7_E : fetE 0 1 13 38016 5 0 (-3) = 0 := by decide
theorem row7_L : (fetL 0 1 13 chapL 5 0 (-3)).take 8 = want7 := chap_row 0 1 13 5 0 (-3) want7 row7_E (by decide) (by decide)
theorem rd_want7 (w : World) : Rd .u8 (w.alloc (.cells #[.int .u8 7, .int .u8 7, .int .u8 7, .int .u8 7, .int .u8 7, .int .u8 7, .int .u8 7, .int .u8 7] 5)) (.slice (some ⟨w.heap.size, 0, none⟩) 8 8) want7 := Rd.lit .u8 5 want7 w (by decide)
theorem rd_123 (w : World) : Rd .u8 (w.alloc (.cells #[.int .u8 1, .int .u8 2, .int .u8 3] 5)) (.slice (some ⟨w.heap.size, 0, none⟩) 3 3) [1, 2, 3] := Rd.lit .u8 5 [1, 2, 3] w (by decide)
set_option maxHeartbeats 1000000 in
theorem motionKnown_any (w : World) : Calls Try.prog 5 #[] w fun e w' => e = .returned (.bool true) ∧ Below w.heap.size w w' := by
  have hh : halfS 5 = 2 ∧ halfS (-1) = 0 := by decide
  have f1 : fitsE 0 1 11 1 0 = 12 ∧ fitsE 0 5 33 0 1 = 12 ∧ fitsE 0 1 1 16 0 = 3 := by decide
  have f3 : fetE 0 1 2 chapL.length 7 0 0 = 3 := by rw [chapL_len]; decide
  have f4 : fetE 0 1 2 ([1, 2, 3] : List Int).length 1 0 0 = 2 := by decide
  have HH := Lib.hid hh
  have F1 := Lib.hid f1
  have F3 := Lib.hid f3
  have F4 := Lib.hid f4
  have hb := Below.refl w.heap.size w
  clear hh f1 f3 f4
  go_enter Try.func5, Try.ntmps5
  go_wp2_with (first
    | (go_at_call 30; refine (awake14_any _).mono ?_; rintro e w3 ⟨rfl, hb'⟩; replace hb := below_nxt hb hb'; clear hb')
    | (go_at_call 35; refine (row14_true 0 1 13 5 0 (-3) _ want7 _ (rd_want7 _) (by decide) (by decide) (by decide) (by decide) (by decide) (by decide) row7_E row7_L).mono ?_; rintro e w3 ⟨rfl, hb'⟩; replace hb := below_nxt (hb.alloc hb.size (Obj.cells #[.int .u8 7, .int .u8 7, .int .u8 7, .int .u8 7, .int .u8 7, .int .u8 7, .int .u8 7, .int .u8 7] 5)) hb'; clear hb')
    | (go_at_call 31; refine (half_any _ _ (by decide) (by decide)).mono ?_; (first | rw [HH.out.1] | rw [HH.out.2]); rintro e w' ⟨rfl, rfl⟩)
    | (go_at_call 26; refine (fits_any _ _ _ _ _ _ (by decide) (by decide) (by decide) (by decide) (by decide) (by decide)).mono ?_; (first | rw [F1.out.1] | rw [F1.out.2.1] | rw [F1.out.2.2]); rintro e w2 ⟨rfl, hb'⟩; replace hb := below_nxt hb hb'; clear hb')
    | (go_at_call 23; refine (fetch_any 0 1 2 1 0 0 _ [1, 2, 3] _ ((rd_123 wq).below hbq) (by decide) (by decide) (by decide) (by decide) (by decide) (by decide)).mono ?_; rw [F4.out]; rintro e w2 ⟨⟨p2, rfl, _⟩, hb'⟩; replace hb := below_nxt hb hb'; clear hb')
    | (go_at_call 23; refine (fetch_any 0 1 2 7 0 0 _ chapL _ (hr.below hbr) (by decide) (by decide) (by decide) (by decide) (by decide) (by decide)).mono ?_; rw [F3.out]; rintro e wq ⟨⟨p1, rfl, _⟩, hb'⟩; replace hb := below_nxt hb hb'; clear hb')
    | (go_at_call 34; refine (qcif14_any _ _ (World.alloc wq _)).mono ?_; rintro e w1 ⟨rfl, hbq⟩; replace hb := below_nxt (hb.alloc hb.size (Obj.cells #[.int .u8 1, .int .u8 2, .int .u8 3] 5)) hbq)
    | (go_at_call 34; refine (qcif14_any _ _ wc).mono ?_; rintro e w1 ⟨rfl, hbr⟩; replace hb := below_nxt hb hbr)
    | (go_at_call 34; refine (qcif14_any _ _ _).mono ?_; rintro e w1 ⟨rfl, hb'⟩; replace hb := below_nxt hb hb'; clear hb')
    | (go_at_call 33; refine (chapter_any _).mono ?_; rintro e wc ⟨⟨r, rfl, hown⟩, hb'⟩; have hr : Rd .u8 wc r chapL := Rd.of_owns (by rw [chapL_len]; exact hown) (by rw [chapL_len]; decide); replace hb := below_nxt hb hb'; clear hb' hown))
  go_ret
  exact ⟨rfl, hb⟩
end Go.Proofs.Ytcieggaihelacaa
/- Layer 14's statement MotionFetches, walked. -/
set_option linter.unusedSimpArgs false
set_option linter.unusedVariables false
namespace Go.Proofs.Ytcieggaihelacaa
open Go.RowKit
set_option maxRecDepth 100000
theorem fetL_le (f g a b x y : Int) (xs : List Int) : (fetL f g a xs b x y).length ≤ 64 := by
  unfold fetL; split
  · simp
  · simp
theorem owns_below {w w' : World} {base size n : Nat} {e : TypeId} {v : Value} {xs : List Value} (h : w.ownsRow base e size v n xs) (hb : Below w.heap.size w w') : w'.ownsRow base e size v n xs :=
  h.kept (below_grown hb none) (by by_cases hn : v.ownBlock = none; exact .inl hn; exact .inr hn)
theorem Rd.grown {k : IntKind} {w w' : World} {v : Value} {xs : List Int} {row : Option Nat} (h : Rd k w v xs) (hg : w.grownBy w' row) (hne : ∀ b, v.ownBlock = some b → some b ≠ row) : Rd k w' v xs :=
  h.kept hg.size (fun b hb => hg.block b (h.block b hb) (hne b hb))
theorem Lies.grown {L : List (Nat × Obj)} {V U : World} {row : Option Nat} (h : Lies L V) (hg : V.grownBy U row) (hne : ∀ p ∈ L, some p.1 ≠ row) : Lies L U := fun p hp => (hg.block _ (blk_lt (h p hp)) (hne p hp)).trans (h p hp)
set_option maxHeartbeats 2000000 in
theorem motionFetches_any (f g a b x y p q c : Int) (w : World) (hf0 : -9223372036854775808 ≤ f) (hf1 : f ≤ 9223372036854775807) (ha : -9223372036854775808 ≤ a) (ha2 : a ≤ 9223372036854775807) (hx0 : -9223372036854775808 ≤ x) (hx1 : x ≤ 9223372036854775807) (hy0 : -9223372036854775808 ≤ y) (hy1 : y ≤ 9223372036854775807) (hc0 : -9223372036854775808 ≤ c) (hc1 : c ≤ 9223372036854775807) :
    Calls Try.prog 3 #[.agg #[.int .i64 f, .int .i64 g, .int .i64 a], .int .i64 b, .int .i64 x, .int .i64 y, .int .i64 p, .int .i64 q, .int .i64 c] w fun e w' => e = .returned (.bool true) ∧ Below w.heap.size w w' := by
  obtain ⟨n, m, hn, hm, hb38, hb15, hmx⟩ : ∃ n m : Nat, (n : Int) = bytesS (f % 2) ∧ m ≤ n ∧ 37000 ≤ m ∧ n ≤ 152064 ∧ max 0 ((n : Int) - c % 101) = (m : Int) := by
    rcases (show f % 2 = 0 ∨ f % 2 = 1 by omega) with h | h
    · rw [h]; exact ⟨38016, (38016 - c % 101).toNat, rfl, by omega, by omega, by omega, by omega⟩
    · rw [h]; exact ⟨152064, (152064 - c % 101).toNat, rfl, by omega, by omega, by omega, by omega⟩
  have hfc : f % 2 = 0 ∨ f % 2 = 1 := by omega
  have hcb : 0 ≤ c % 101 ∧ c % 101 ≤ 100 := by omega
  generalize hff : f % 2 = ff at *
  generalize hcc : c % 101 = cc at *
  have HFF := Lib.hid hff
  have HCC := Lib.hid hcc
  have HN := Lib.hid hn
  have hb0 := (Below.refl w.heap.size w).alloc (Nat.le_refl _) (Obj.cells #[.int .i64 f, .int .i64 g, .int .i64 a] 23)
  have hn0 := World.alloc_heap_new w (Obj.cells #[.int .i64 f, .int .i64 g, .int .i64 a] 23)
  have HL0 := Lib.hid ((Lies.nil w).alloc (Obj.cells #[.int .i64 f, .int .i64 g, .int .i64 a] 23))
  have HB0 := Lib.hid hb0
  clear hff hcc hn hb0 hn0
  go_enter Try.func3, Try.ntmps3
  go_wp2_with (first
    | (go_at_call 21; refine (pick_any _ _ _ (by omega) (by omega) (by decide) (by decide)).mono ?_; (first | rw [HFF.out] | rw [HCC.out]); rintro e w' ⟨rfl, rfl⟩)
    | (go_at_call 24; refine (rfetch_any f g a b x y _ ys w3 (HI2.out.below HB3.out) ha ha2).mono ?_; rw [HYS.out]; rintro e w4 ⟨⟨v, rfl, hv⟩, hb4⟩; have HV := Lib.hid hv; have HL4 := Lib.hid (HL3.out.next hb4); have HB4 := Lib.hid hb4; clear hv hb4; have k0 := HL4.out.head; have c04 := blk_cell k0 0; have c14 := blk_cell k0 1; have c24 := blk_cell k0 2; simp only [List.getElem?_toArray, List.getElem?_cons_zero, List.getElem?_cons_succ] at c04 c14 c24; clear k0)
    | (go_at_call 23; refine (fetch_any f g a b x y _ ys w2 HR2.out ha ha2 hx0 hx1 hy0 hy1).mono ?_; rw [HYS.out]; rintro e w3 ⟨⟨u, rfl, hu⟩, hb3⟩; have HU := Lib.hid hu; have HL3 := Lib.hid (HL2.out.next hb3); have HB3 := Lib.hid hb3; clear hu hb3; have k0 := HL3.out.head; have c03 := blk_cell k0 0; have c13 := blk_cell k0 1; have c23 := blk_cell k0 2; simp only [List.getElem?_toArray, List.getElem?_cons_zero, List.getElem?_cons_succ] at c03 c13 c23; clear k0)
    | (go_at_call 22; refine (lentBytes_any _ ys _ HI1.out (by rw [HYS.out]; omega)).mono ?_; rw [HYS.out]; rintro e w2 ⟨⟨gl, tl, rfl, hgl, hp2, hmx2⟩, hb2⟩; have hr2 := hp2.rd (by rw [HYS.out]; omega) (c := m + (4 + tl.length)) (by rw [HYS.out]; omega); rw [HYS.out] at hr2; have HR2 := Lib.hid hr2; have HP2 := Lib.hid hp2; have HL2 := Lib.hid (HL1.out.next hb2); have HI2 := Lib.hid (HI1.out.below hb2); have HB2 := Lib.hid (below_nxt HB1.out hb2); clear hp2 hr2 hb2; have k0 := HL2.out.head; have c02 := blk_cell k0 0; have c12 := blk_cell k0 1; have c22 := blk_cell k0 2; simp only [List.getElem?_toArray, List.getElem?_cons_zero, List.getElem?_cons_succ] at c02 c12 c22; clear k0)
    | (go_at_call 20; refine (scene_any ff p q _ hfc).mono ?_; rintro e w1 ⟨⟨gs, ns, xs, rfl, hns, hxs, hby, hgs, hp1⟩, hb1⟩; have hnn : ns = n := (by have := HN.out; omega); subst hnn; obtain ⟨ys, hys0⟩ : ∃ ys, xs.take m = ys := ⟨_, rfl⟩; have HYS : Hid (ys.length = m) := Lib.hid (by rw [← hys0, List.length_take]; omega); have hi1 : Rd .u8 w1 (.slice (some ⟨gs, 0, none⟩) m ns) ys := (by have h := (hp1.rd (by omega) (c := ns) (by omega)).sub 0 m ns (by omega) (by omega); rw [List.drop_zero, hys0, Nat.zero_add] at h; exact h); have HI1 := Lib.hid hi1; have HL1 := Lib.hid (HL0.out.next hb1); have HB1 := Lib.hid (below_nxt HB0.out hb1); clear hns hxs hp1 hby hb1 hi1 hys0))
  have hF := fetL_le f g a b x y ys
  obtain ⟨F, hFF⟩ : ∃ F, fetL f g a ys b x y = F := ⟨_, rfl⟩
  rw [hFF] at hF HU HV
  have HFL := Lib.hid hF
  have hwf : ∀ f, Fence.wide.fn f := fun _ => trivial
  have hwd : Fence.wide.depth = none := rfl
  clear hFF hF c02 c12 c22 c03 c13 c23 c04 c14 c24
  refine wp_region_mix (fun w' => w'.heap[w.heap.size]? = some (.cells #[.int .i64 f, .int .i64 g, .int .i64 a] 23 (0, 0))) [19] [(0, true), (1, true), (2, false), (3, true), (4, true), (5, true), (6, true), (7, true), (8, true), (9, true), (10, true), (11, true), (13, true), (14, true), (15, true), (12, false), (16, false), (17, false), (18, false), (19, false)] (by kernel_rfl) (by kernel_rfl) rfl (by kernel_rfl) HL4.out.head ?_
  iterate 2 (refine mix_q rfl rfl (fun w' hB => by go_simp; rfl) ?_; simp only [Act.put, List.setIfInBounds_toArray, List.set_cons_succ, List.set_cons_zero])
  refine mix_e rfl rfl ?_
  go_simp
  refine (callsIn_wide.2 (sameBytes_true u v F _ (((Rd.of_owns HU.out (by have := HFL.out; omega)).below HB4.out).drewN 1) ((Rd.of_owns HV.out (by have := HFL.out; omega)).drewN 1))).mono ?_
  rintro e w5 ⟨rfl, rfl⟩
  refine ⟨HL4.out.head, ?_⟩
  iterate 6 (refine mix_q rfl rfl (fun w' hB => by go_simp; rfl) ?_; simp only [Act.put, List.setIfInBounds_toArray, List.set_cons_succ, List.set_cons_zero])
  refine mix_q rfl rfl (fun w' hB => by have c0 := blk_cell hB 0; have c1 := blk_cell hB 1; have c2 := blk_cell hB 2; simp only [List.getElem?_toArray, List.getElem?_cons_zero, List.getElem?_cons_succ] at c0 c1 c2; go_simp; rfl) ?_; simp only [Act.put, List.setIfInBounds_toArray, List.set_cons_succ, List.set_cons_zero]
  iterate 2 (refine mix_q rfl rfl (fun w' hB => by go_simp; rfl) ?_; simp only [Act.put, List.setIfInBounds_toArray, List.set_cons_succ, List.set_cons_zero])
  refine mix_q rfl rfl (fun w' hB => by have c0 := blk_cell hB 0; have c1 := blk_cell hB 1; have c2 := blk_cell hB 2; simp only [List.getElem?_toArray, List.getElem?_cons_zero, List.getElem?_cons_succ] at c0 c1 c2; go_simp; rfl) ?_; simp only [Act.put, List.setIfInBounds_toArray, List.set_cons_succ, List.set_cons_zero]
  iterate 2 (refine mix_q rfl rfl (fun w' hB => by go_simp; rfl) ?_; simp only [Act.put, List.setIfInBounds_toArray, List.set_cons_succ, List.set_cons_zero])
  refine mix_e rfl rfl ?_
  go_simp
  refine (callsIn_wide.2 (fits_any _ _ _ _ _ _ ha ha2 hx0 hx1 hy0 hy1)).mono ?_
  rintro e w5 ⟨rfl, hb5⟩
  have HB5 := Lib.hid (below_nxt (below_drewN HB4.out 1) hb5)
  have HL5 := Lib.hid ((show Lies _ w4.drew from HL4.out).next hb5)
  refine ⟨HL5.out.head, ?_⟩
  clear hb5
  refine mix_e rfl rfl ?_
  go_simp
  refine (callsIn_wide.2 (rfits_any _ _ _ _ _ _ ha ha2)).mono ?_
  rintro e w6 ⟨rfl, hb6⟩
  have HB6 := Lib.hid (below_nxt HB5.out hb6)
  have HL6 := Lib.hid (HL5.out.next hb6)
  refine ⟨HL6.out.head, ?_⟩
  clear hb6
  iterate 2 (refine mix_e rfl rfl ?_; go_simp; refine ⟨HL6.out.head, ?_⟩)
  refine mix_e rfl rfl ?_
  go_simp
  refine mix_nil ?_
  have HU6 := Lib.hid (owns_below HU.out HB6.out)
  have HI6 := Lib.hid ((HI2.out.below HB3.out).below HB6.out)
  have HP6 := Lib.hid ((HP2.out.below HB3.out).below HB6.out)
  have HZ2 := Lib.hid (And.intro HP2.out.lt (And.intro HB2.out.size (And.intro HB3.out.size HB6.out.size)))
  have hrow : ∀ k, u.ownBlock = some k → w2.heap.size ≤ k := fun k e => (HU.out.lt k e).1
  have HROW := Lib.hid hrow
  have hg1 : w2.heap.size > gs := by
    obtain ⟨b', o', c', e, hb', _⟩ := HI2.out.solid (by rw [HYS.out]; omega)
    injection e with e; injection e with e; injection e with e; omega
  clear hrow
  go_wp2_with (first
    | (go_at_call 28; refine (overBytes_any u w2.heap.size F w6 HU6.out (by have := HFL.out; omega)).mono ?_; rintro e w7 ⟨⟨r, rfl⟩, h7⟩; have HI7 := Lib.hid (HI6.out.grown h7 (fun b hb e => by simp only [Value.ownBlock, Option.some.injEq] at hb; subst hb; have := HROW.out _ e.symm; omega)); have HP7 := Lib.hid (HP6.out.kept h7 (fun e => by have := HROW.out _ e.symm; have := HZ2.out; omega)); have HB7 := Lib.hid ((HB2.out.trans ((HB3.out.mono HB2.out.size).trans (HB6.out.mono (by have := HZ2.out; omega)))).grown h7 (by have := HZ2.out; omega) (fun j e => by have := HROW.out j e; have := HZ2.out; omega)); clear h7)
    | (go_at_call 29; have hk := keptBytes_true gl _ ys tl w7 HP7.out HI7.out (by rw [HYS.out]; omega) (by rw [HYS.out]; exact hmx2); rw [HYS.out] at hk; refine hk.mono ?_; clear hk; rintro e w8 ⟨rfl, hb8⟩; have HB8 := Lib.hid (below_nxt HB7.out hb8); clear hb8)
    | (go_at_call 30; refine (awake14_any _).mono ?_; rintro e w9 ⟨rfl, hb9⟩; have HB9 := Lib.hid (below_nxt HB8.out hb9); clear hb9))
  go_ret
  exact ⟨rfl, HB9.out⟩
end Go.Proofs.Ytcieggaihelacaa
/- Layer 14's statement MotionAlone, walked: one sample of the picture is another one. -/
set_option linter.unusedSimpArgs false
set_option linter.unusedVariables false
namespace Go.Proofs.Ytcieggaihelacaa
open Go.RowKit
set_option maxRecDepth 100000
theorem plcS_is {f b : Int} (hf : f = 0 ∨ f = 1) : plcS f b = 88 ∨ plcS f b = 176 ∨ plcS f b = 352 := by
  unfold plcS
  rcases hf with rfl | rfl
  · have e1 : wideS 0 = 176 := rfl
    rw [e1]; split <;> omega
  · have e1 : wideS 1 = 352 := rfl
    rw [e1]; split <;> omega
theorem fetI_inj {f g a b x y : Int} (hf : f = 0 ∨ f = 1) {k j : Nat} (hk : k < 64) (hj : j < 64) (h : fetI f g a b x y k = fetI f g a b x y j) : k = j := by
  unfold fetI at h
  generalize plcV f (cornerX f g a) (cornerY g a) b = V at h
  generalize sxS b x = sx at h
  generalize sxS b y = sy at h
  rcases plcS_is (f := f) (b := b) hf with e | e | e <;> rw [e] at h <;> omega
theorem alone_plain (f g a b x y : Int) (xs : List Int) (q : Nat) (z : Int) (hf : f = 0 ∨ f = 1) (hz : z = (xs[q]?.getD 0 + 1) % 256) :
    fetE f g a (xs.set q z).length b x y = fetE f g a xs.length b x y ∧ (fetL f g a (xs.set q z) b x y).length = (fetL f g a xs b x y).length ∧ (fetL f g a xs b x y).length ≤ 64 ∧
    ∃ p : Nat, ∀ k, k < (fetL f g a xs b x y).length → ((fetL f g a xs b x y)[k]?.getD 0 = (fetL f g a (xs.set q z) b x y)[k]?.getD 0) ∨ (k = p ∧ (fetL f g a (xs.set q z) b x y)[k]?.getD 0 = ((fetL f g a xs b x y)[k]?.getD 0 + 1) % 256) := by
  have hE : fetE f g a (xs.set q z).length b x y = fetE f g a xs.length b x y := by rw [List.length_set]
  refine ⟨hE, ?_⟩
  by_cases h0 : fetE f g a xs.length b x y = 0
  · have hc : cornE f g a = 0 ∧ (xs.length : Int) = bytesS f ∧ (1 ≤ b ∧ b ≤ 6) ∧ fitsE f g a x y = 0 := by
      rcases fet_cases f g a xs b x y with ⟨hc, e, _⟩ | ⟨hc, h1, e, _⟩ | ⟨hc, h1, h2, e, _⟩ | ⟨hc, h1, h2, h3, e, _⟩ | ⟨hc, h1, h2, h3, e, _⟩
      · rw [e] at h0; exact absurd h0 hc
      · rw [e] at h0; cases h0
      · rw [e] at h0; cases h0
      · rw [e] at h0; exact absurd h0 h3
      · exact ⟨hc, h1, h2, h3⟩
    rw [fetL_len h0, fetL_len (hE.trans h0)]
    refine ⟨by simp, by simp, ?_⟩
    have hat : ∀ (ys : List Int) (k : Nat), k < 64 → ((List.range 64).map (fun k => ys[(fetI f g a b x y k).toNat]?.getD 0))[k]?.getD 0 = ys[(fetI f g a b x y k).toNat]?.getD 0 := fun ys k hk => by
      rw [List.getElem?_map, List.getElem?_range hk]; rfl
    have hin : ∀ k : Nat, k < 64 → 0 ≤ fetI f g a b x y k ∧ fetI f g a b x y k < (xs.length : Int) := fun k hk => fetI_in hc.1 hc.2.1 hc.2.2.1 hc.2.2.2 hk
    by_cases hp : ∃ p : Nat, p < 64 ∧ (fetI f g a b x y p).toNat = q
    · obtain ⟨p, hp, hpq⟩ := hp
      refine ⟨p, fun k hk => ?_⟩
      have hk : k < 64 := by simpa using hk
      rw [hat _ k hk, hat _ k hk]
      by_cases e : k = p
      · subst e
        refine .inr ⟨rfl, ?_⟩
        rw [hpq, List.getElem?_set_self (by have := hin k hk; omega), hz]; rfl
      · refine .inl ?_
        rw [List.getElem?_set_ne]
        intro e2
        refine e (fetI_inj (g := g) (a := a) (b := b) (x := x) (y := y) hf hk hp ?_)
        have := hin k hk; have := hin p hp; omega
    · refine ⟨0, fun k hk => ?_⟩
      have hk : k < 64 := by simpa using hk
      rw [hat _ k hk, hat _ k hk]
      refine .inl ?_
      rw [List.getElem?_set_ne]
      exact fun e => hp ⟨k, hk, e.symm⟩
  · rw [fetL_none h0, fetL_none (by rw [hE]; exact h0)]
    exact ⟨rfl, by simp, 0, fun k hk => by simp at hk⟩
theorem Rd.at {k : IntKind} {w : World} {a : Option Addr} {n c : Nat} {xs : List Int} (h : Rd k w (.slice a n c) xs) {i : Nat} (hi : i < n) : ∃ b o, a = some ⟨b, o, none⟩ ∧ n ≤ c ∧ w.cell? ⟨b, o + i, none⟩ = some (.int k (xs[i]?.getD 0)) := by
  rcases h with ⟨e, _⟩ | ⟨b, o, c', e, _, hc, _, hh⟩
  · cases e; omega
  · cases e; exact ⟨b, o, rfl, hc, hh i hi⟩
set_option maxHeartbeats 4000000 in
theorem motionAlone_any (x0 x1 x2 x3 x4 x5 x6 x7 : Int) (w : World) (h0 : -9223372036854775808 ≤ x0 ∧ x0 ≤ 9223372036854775807) (h1 : -9223372036854775808 ≤ x1 ∧ x1 ≤ 9223372036854775807) (h2 : -9223372036854775808 ≤ x2 ∧ x2 ≤ 9223372036854775807) (h3 : -9223372036854775808 ≤ x3 ∧ x3 ≤ 9223372036854775807) (h4 : -9223372036854775808 ≤ x4 ∧ x4 ≤ 9223372036854775807) (h5 : -9223372036854775808 ≤ x5 ∧ x5 ≤ 9223372036854775807) (h7 : -9223372036854775808 ≤ x7 ∧ x7 ≤ 9223372036854775807) :
    Calls Try.prog 7 #[.int .i64 x0, .int .i64 x1, .int .i64 x2, .int .i64 x3, .int .i64 x4, .int .i64 x5, .int .i64 x6, .int .i64 x7] w fun e w' => e = .returned (.bool true) ∧ Below w.heap.size w w' := by
  obtain ⟨b, hb⟩ : ∃ b, x3 % 6 = b := ⟨_, rfl⟩
  obtain ⟨x, hx⟩ : ∃ x, x4 % 31 = x := ⟨_, rfl⟩
  obtain ⟨y, hy⟩ : ∃ y, x5 % 31 = y := ⟨_, rfl⟩
  have hbb : 0 ≤ b ∧ b ≤ 5 := by omega
  have hxb : 0 ≤ x ∧ x ≤ 30 := by omega
  have hyb : 0 ≤ y ∧ y ≤ 30 := by omega
  have HP := Lib.hid (And.intro hb (And.intro hx hy))
  obtain ⟨qa, hqa⟩ : ∃ qa, x2 % 33 = qa := ⟨_, rfl⟩
  have hqb : 0 ≤ qa ∧ qa ≤ 32 := by omega
  have hs := spot_any x0 x1 x2
  rw [hqa] at hs
  have HS := Lib.hid hs
  clear hb hx hy hs hqa
  go_enter Try.func7, Try.ntmps7
  go_wp2_with (first
    | (go_at_call 30; refine (awake14_any _).mono ?_; rintro e w1 ⟨rfl, hb1⟩; have HB1 := Lib.hid hb1; clear hb1)
    | (go_at_call 36; refine (HS.out _ h0.1 h0.2 h1.1 h1.2 h2.1 h2.2).mono ?_; rintro e w2 ⟨⟨f, g, rfl, hfx, hf, hg⟩, hb2⟩; have HL2 := Lib.hid ((Lies.nil w2).alloc (Obj.cells #[.int .i64 f, .int .i64 g, .int .i64 (1 + qa)] 23)); have HB2 := Lib.hid ((below_nxt HB1.out hb2).alloc (below_nxt HB1.out hb2).size (Obj.cells #[.int .i64 f, .int .i64 g, .int .i64 (1 + qa)] 23)); clear hfx hb2)
    | (go_at_call 21; refine (pick_any _ _ _ (by omega) (by omega) (by decide) (by decide)).mono ?_; (first | rw [HP.out.1] | rw [HP.out.2.1] | rw [HP.out.2.2]); rintro e w' ⟨rfl, rfl⟩)
    | (go_at_call 23; refine (fetch_any f g (1 + qa) (1 + b) (x - 15) (y - 15) _ xs w3 HR3.out (by omega) (by omega) (by omega) (by omega) (by omega) (by omega)).mono ?_; rintro e w4 ⟨⟨u, rfl, hu⟩, hb4⟩; obtain ⟨L, hL⟩ : ∃ L, fetL f g (1 + qa) xs (1 + b) (x - 15) (y - 15) = L := ⟨_, rfl⟩; obtain ⟨E, hE⟩ : ∃ E, fetE f g (1 + qa) xs.length (1 + b) (x - 15) (y - 15) = E := ⟨_, rfl⟩; rw [hL] at hu; rw [hE]; have hl64 : L.length ≤ 64 := (by rw [← hL]; exact fetL_le _ _ _ _ _ _ _); have HLL := Lib.hid hL; have HEE := Lib.hid hE; obtain ⟨LN, hLN⟩ : ∃ LN, L.length = LN := ⟨_, rfl⟩; have HLN := Lib.hid hLN; have hru := Rd.of_owns hu (by omega); have hU0 : ∀ j, u.ownBlock = some j → w3.heap.size ≤ j := (fun j e => (hu.lt j e).1); obtain ⟨ua, uc, rfl⟩ := hru.form; simp only [hLN] at hru hU0; have HRU := Lib.hid hru; have HU := Lib.hid hU0; rw [hLN] at hl64 ⊢; have HL4 := Lib.hid (HL3.out.next hb4); have HP4 := Lib.hid (HP3.out.below hb4); have HB4 := Lib.hid (below_nxt HB3.out hb4); have HZ4 := Lib.hid hb4.size; clear hru hu hU0 hb4 hL hE hLN; have c4 := HP4.out.cell (i := q) (by rw [HXS.out]; exact hqn); have fr4 := HP4.out.free q; obtain ⟨ee, hee⟩ : ∃ ee, xs[q]?.getD 0 = ee := ⟨_, rfl⟩; rw [hee] at c4; have HEX := Lib.hid hee; clear hee; have k0 := HL4.out.head; have c04 := blk_cell k0 0; have c14 := blk_cell k0 1; have c24 := blk_cell k0 2; simp only [List.getElem?_toArray, List.getElem?_cons_zero, List.getElem?_cons_succ] at c04 c14 c24; clear k0; have HZG := Lib.hid (show w2.heap.size < gs by simp at hgs; omega); have HGL : Hid (gs < w3.heap.size) := Lib.hid HP3.out.lt; have HG5 := Lib.hid (grown_set w4 ⟨gs, q, none⟩ (.int .u8 ((ee + 1) % 256))); have HL5 := Lib.hid (HL4.out.grown HG5.out (fun p hp e => by simp at hp; subst hp; simp at e; have := HZG.out; omega)); have HR5 := Lib.hid (show Rd .u8 (w4.setCell ⟨gs, q, none⟩ (.int .u8 ((ee + 1) % 256))) (.slice (some ⟨gs, 0, none⟩) n n) (xs.set q ((ee + 1) % 256)) by have h := (HP4.out.set (i := q) (by rw [HXS.out]; exact hqn) ((ee + 1) % 256)).rd (by rw [List.length_set, HXS.out]; omega) (c := n) (by rw [List.length_set, HXS.out]; omega); rw [List.length_set, HXS.out] at h; exact h); have HP5 := Lib.hid (HP4.out.set (i := q) (by rw [HXS.out]; exact hqn) ((ee + 1) % 256)); have k0 := HL5.out.head; have c05 := blk_cell k0 0; have c15 := blk_cell k0 1; have c25 := blk_cell k0 2; simp only [List.getElem?_toArray, List.getElem?_cons_zero, List.getElem?_cons_succ] at c05 c15 c25; clear k0)
    | (go_at_call 21; refine (pick_any _ _ _ h7.1 h7.2 (by omega) (by omega)).mono ?_; rw [HQ7.out]; rintro e w' ⟨rfl, rfl⟩)
    | (go_at_call 20; refine (scene_any f x6 5 _ hf).mono ?_; rintro e w3 ⟨⟨gs, n, xs, rfl, hns, hxs, hby, hgs, hp3⟩, hb3⟩; have hnb : 38016 ≤ n ∧ n ≤ 152064 := (by clear hxs hby hgs hp3 hb3; rcases hf with rfl | rfl <;> simp [bytesS] at hns <;> omega); have hn0 : ((n : Int) == 0) = false := (by simp; omega); obtain ⟨q, hq, hqn⟩ : ∃ q : Nat, x7 % (n : Int) = q ∧ q < n := ⟨(x7 % (n : Int)).toNat, by have := Int.emod_nonneg x7 (show (n : Int) ≠ 0 by omega); omega, by have := Int.emod_lt_of_pos x7 (show (0 : Int) < n by omega); have := Int.emod_nonneg x7 (show (n : Int) ≠ 0 by omega); omega⟩; have HQ7 := Lib.hid hq; have HN3 := Lib.hid hns; have hr3 := hp3.rd (by omega) (c := n) (by omega); rw [hxs] at hr3; have HR3 := Lib.hid hr3; have HXS := Lib.hid hxs; have HP3 := Lib.hid hp3; have HL3 := Lib.hid (HL2.out.next hb3); have HB3 := Lib.hid (below_nxt HB2.out hb3); clear hns hxs hp3 hby hb3 hr3 hq; have k0 := HL3.out.head; have c03 := blk_cell k0 0; have c13 := blk_cell k0 1; have c23 := blk_cell k0 2; simp only [List.getElem?_toArray, List.getElem?_cons_zero, List.getElem?_cons_succ] at c03 c13 c23; clear k0))
  refine (fetch_any f g (1 + qa) (1 + b) (x - 15) (y - 15) _ (xs.set q ((ee + 1) % 256)) _ HR5.out (by omega) (by omega) (by omega) (by omega) (by omega) (by omega)).mono ?_
  have AL := alone_plain f g (1 + qa) (1 + b) (x - 15) (y - 15) xs q ((ee + 1) % 256) hf (by rw [HEX.out])
  rw [AL.1, HEE.out]
  rw [HLL.out] at AL
  obtain ⟨M, hM⟩ : ∃ M, fetL f g (1 + qa) (xs.set q ((ee + 1) % 256)) (1 + b) (x - 15) (y - 15) = M := ⟨_, rfl⟩
  rw [hM] at AL ⊢
  obtain ⟨_, al2, _, al3⟩ := AL
  rw [HLN.out] at al2 al3
  have AL3 := Lib.hid al3
  rintro e w6 ⟨⟨v, rfl, hv⟩, hb6⟩
  have hrv := Rd.of_owns hv (by omega)
  obtain ⟨va, vc, rfl⟩ := hrv.form
  rw [al2] at hrv ⊢
  have HRV := Lib.hid hrv
  have HRU6 := Lib.hid ((HRU.out.grown HG5.out (fun k e1 e2 => by have := HU.out k e1; have := HGL.out; injection e2 with e2; omega)).below hb6)
  have HB6 := Lib.hid (below_nxt (HB4.out.setCell (p := ⟨gs, q, none⟩) (by show w.heap.size ≤ gs; have := HB2.out.size; omega) (.int .u8 ((ee + 1) % 256))) hb6)
  clear hM al2 al3 hv hrv hb6
  obtain ⟨p, alp⟩ := AL3.out
  have ALP := Lib.hid alp
  clear alp c03 c13 c23 c04 c14 c24 c05 c15 c25 c4 fr4
  go_wp2
  go_loopw [24, 25] (fun far i wr => ∃ k : Nat, k ≤ LN ∧ i = .int .i64 k ∧ (∃ c : Nat, far = .int .i64 c ∧ c ≤ 1 ∧ (c = 0 ∨ p < k)) ∧ ∃ nd, wr = w6.drewN nd) (fun _ i _ => LN - (intOf i).toNat)
  case atStart => exact ⟨0, by omega, rfl, ⟨0, rfl, by omega, .inl rfl⟩, 0, rfl⟩
  case round =>
    obtain ⟨k, hk, rfl, ⟨c, rfl, hc1, hcp⟩, nd, rfl⟩ := hrel
    by_cases hlt : k < LN
    · obtain ⟨b1, o1, rfl, hle1, hcell1⟩ := HRU6.out.at hlt
      obtain ⟨b2, o2, rfl, hle2, hcell2⟩ := HRV.out.at hlt
      have halt := ALP.out k hlt
      generalize L[k]?.getD 0 = e1 at hcell1 halt
      generalize M[k]?.getD 0 = e2 at hcell2 halt
      have t1 : (k : Int) < (LN : Int) := by omega
      by_cases he : e1 = e2
      · subst he
        clear halt
        go_wp2
        go_quiet (fail)
        go_wp2
        go_roundw
        case rel => exact ⟨k + 1, by omega, by go_num, ⟨c, rfl, hc1, by omega⟩, _, rfl⟩
        case measure => simp [intOf]; omega
      · have hkp : k = p ∧ e2 = (e1 + 1) % 256 := by
          rcases halt with h | h
          · exact absurd h he
          · exact h
        have hw : IntKind.u8.wrap (e1 + 1) = e2 := by
          rw [hkp.2]; simp [IntKind.wrap, IntKind.signed, IntKind.bits]
        have hne : (e1 != e2) = true := by simpa using he
        obtain rfl : c = 0 := by omega
        have HKP := Lib.hid hkp.1
        clear halt he hkp
        go_wp2
        go_quiet (fail)
        go_wp2
        go_quiet (fail)
        go_wp2
        go_roundw
        case rel => exact ⟨k + 1, by omega, by go_num, ⟨1, rfl, by omega, .inr (by have := HKP.out; omega)⟩, _, rfl⟩
        case measure => simp [intOf]; omega
    · have e : k = LN := by omega
      subst e
      go_wp2
      go_ret
      exact ⟨by simp; omega, below_drewN HB6.out nd⟩
end Go.Proofs.Ytcieggaihelacaa
/- Layer 13's statements, walked: FrameKnown, FrameRows. -/
set_option linter.unusedSimpArgs false
set_option linter.unusedVariables false
namespace Go.Proofs.Ytcieggaihelacaa
open Go.RowKit

theorem rd_135 (w : World) : Rd .i64 (w.alloc (.cells #[.int .i64 1, .int .i64 3, .int .i64 5] 3)) (.slice (some ⟨w.heap.size, 0, none⟩) 3 3) [1, 3, 5] :=
  Rd.of_owns (xs := [1, 3, 5]) (k := .i64) (owns_new 3 [.int .i64 1, .int .i64 3, .int .i64 5] (by decide)) (by decide)
set_option maxRecDepth 100000 in
set_option maxHeartbeats 4000000 in
theorem frameKnown_any (w : World) : Calls Try.prog 10 #[] w fun e w' => e = .returned (.bool true) ∧ Below w.heap.size w w' := by
  have hgs : groupsS 0 = [1, 3, 5] := rfl
  have HGS := Lib.hid hgs
  clear hgs
  go_enter Try.func10, Try.ntmps10
  go_wp2_with (first
    | (go_at_call 43; refine (same_true _ _ [1, 3, 5] _ (hl.alloc _) (rd_135 _)).mono ?_; rintro e w5 ⟨rfl, n5, rfl⟩; replace hb := below_drewN (hb.alloc hb.size (Obj.cells #[.int .i64 1, .int .i64 3, .int .i64 5] 3)) n5)
    | (go_at_call 39; refine (Groups_any 0 _).mono ?_; rw [HGS.out]; rintro e w1 ⟨⟨l, rfl, hl0⟩, hb⟩; have hl := Rd.of_owns (xs := [1, 3, 5]) hl0 (by decide); clear hl0)
    | (go_at_call 50; refine (sized_true _ _ _ _ _ _ (by decide) (by decide) (by decide) (by decide)).mono ?_; rintro e w1 ⟨rfl, hb'⟩; replace hb := below_next hb hb'; replace hl := hl.below hb'; clear hb')
    | (go_at_call 51; refine (next_true _ _ _ _ _ (by decide) (by decide)).mono ?_; rintro e w2 ⟨rfl, hb'⟩; replace hb := below_next hb hb'; clear hb')
    | (go_at_call 52; refine (corner_true _ _ _ _ _ _ _ (by decide) (by decide) (by decide) (by decide) (by decide)).mono ?_; rintro e w3 ⟨rfl, hb'⟩; replace hb := below_next hb hb'; clear hb')
    | (go_at_call 45; refine (awake13_any _).mono ?_; rintro e w9 ⟨rfl, hb'⟩; replace hb := below_next hb hb'; clear hb')
    | (go_at_call 53; refine (place_true _ _ _ _ _ _ _ _ (by decide) (by decide) (by decide) (by decide) (by decide)).mono ?_; rintro e w4 ⟨rfl, hb'⟩; replace hb := below_next hb hb'; clear hb'))
  go_ret
  exact ⟨rfl, hb⟩

theorem corn_val {f g a : Int} (h : f = 0 ∨ f = 1) (hg : g ∈ groupsS f) (ha : 1 ≤ a ∧ a ≤ 33) : cornE f g a = 0 ∧ cornX f g a = cornerX f g a ∧ cornY f g a = cornerY g a := by
  rcases corn_cases f g a with ⟨h1, _⟩ | ⟨_, h1, _⟩ | ⟨_, _, h1, _⟩ | ⟨_, _, _, e1, e2, e3⟩
  · exact absurd h h1
  · exact absurd hg h1
  · exact absurd ha h1
  · exact ⟨e1, e2, e3⟩
theorem pl_val {f g a b : Int} (h : f = 0 ∨ f = 1) (hg : g ∈ groupsS f) (ha : 1 ≤ a ∧ a ≤ 33) (hb : 1 ≤ b ∧ b ≤ 6) : plE f g a b = 0 ∧ plA f g a b = plcV f (cornerX f g a) (cornerY g a) b ∧ plS f g a b = plcS f b := by
  have hc := (corn_val h hg ha).1
  rcases pl_cases f g a b with ⟨_, h1, _⟩ | ⟨_, h1, _⟩ | ⟨_, _, e1, e2, e3⟩
  · exact absurd hc h1
  · exact absurd hb h1
  · exact ⟨e1, e2, e3⟩

set_option maxRecDepth 100000 in
set_option maxHeartbeats 4000000 in
theorem frameRows_0 (x y z : Int) (w : World) (hx0 : -9223372036854775808 ≤ x) (hx1 : x ≤ 9223372036854775807) (hy0 : -9223372036854775808 ≤ y) (hy1 : y ≤ 9223372036854775807) (hz0 : -9223372036854775808 ≤ z) (hz1 : z ≤ 9223372036854775807) (hf : x % 2 = 0) :
    Calls Try.prog 12 #[.int .i64 x, .int .i64 y, .int .i64 z] w fun e w' => e = .returned (.bool true) ∧ Below w.heap.size w w' := by
  obtain ⟨q, hq⟩ : ∃ q, z % 33 = q := ⟨_, rfl⟩
  have hqb : 0 ≤ q ∧ q ≤ 32 := by omega
  obtain ⟨p, hp⟩ : ∃ p : Nat, y % 3 = p := ⟨(y % 3).toNat, by omega⟩
  have hpb : p < 3 := by omega
  have hgs : groupsS 0 = [1, 3, 5] := rfl
  obtain ⟨G, hG⟩ : ∃ G, ([1, 3, 5] : List Int)[p]?.getD 0 = G := ⟨_, rfl⟩
  have hGm : G ∈ groupsS 0 := by
    rw [hgs, ← hG, List.getElem?_eq_getElem (by exact hpb), Option.getD_some]
    exact List.getElem_mem _
  have hGb := groups_bd hGm
  have hF : (0 : Int) = 0 ∨ (0 : Int) = 1 := by decide
  obtain ⟨c1, c2, c3⟩ := corn_val hF hGm (a := 1) (by omega)
  obtain ⟨d1, d2, d3⟩ := corn_val hF hGm (a := 1 + q) (by omega)
  have hW : wideS 0 = 176 := rfl
  have hH : highS 0 = 144 := rfl
  obtain ⟨e11, e12, e13⟩ := pl_val hF hGm (a := 1 + q) (b := 1) (by omega) (by decide)
  obtain ⟨e21, e22, e23⟩ := pl_val hF hGm (a := 1 + q) (b := 2) (by omega) (by decide)
  obtain ⟨e31, e32, e33⟩ := pl_val hF hGm (a := 1 + q) (b := 3) (by omega) (by decide)
  obtain ⟨e41, e42, e43⟩ := pl_val hF hGm (a := 1 + q) (b := 4) (by omega) (by decide)
  obtain ⟨e51, e52, e53⟩ := pl_val hF hGm (a := 1 + q) (b := 5) (by omega) (by decide)
  obtain ⟨e61, e62, e63⟩ := pl_val hF hGm (a := 1 + q) (b := 6) (by omega) (by decide)
  simp [plcV, plcS, hW, hH] at e12 e13 e22 e23 e32 e33 e42 e43 e52 e53 e62 e63
  obtain ⟨X0, hX0⟩ : ∃ X0, cornX 0 G 1 = X0 := ⟨_, rfl⟩
  obtain ⟨Y0, hY0⟩ : ∃ Y0, cornY 0 G 1 = Y0 := ⟨_, rfl⟩
  have xs : 0 ≤ X0 ∧ X0 ≤ 176 ∧ X0 % 176 = 0 ∧ 0 ≤ Y0 ∧ Y0 ≤ 240 ∧ Y0 % 48 = 0 ∧ cornerX 0 G (1 + q) = X0 + q % 11 * 16 ∧ cornerY G (1 + q) = Y0 + q / 11 * 16 := by
    rw [← hX0, ← hY0, c2, c3]
    unfold cornerX cornerY
    clear e12 e22 e32 e42 e52 e62
    omega
  obtain ⟨x1, x2, x3, y1, y2, y3, kx, ky⟩ := xs
  rw [kx, ky] at e12 e22 e32 e42 e52 e62
  rw [kx] at d2
  rw [ky] at d3
  have HC := Lib.hid (And.intro hX0 (And.intro hY0 c1))
  have HD := Lib.hid (And.intro d1 (And.intro d2 d3))
  have HP := Lib.hid (And.intro (And.intro e11 (And.intro e12 e13)) (And.intro (And.intro e21 (And.intro e22 e23)) (And.intro (And.intro e31 (And.intro e32 e33)) (And.intro (And.intro e41 (And.intro e42 e43)) (And.intro (And.intro e51 (And.intro e52 e53)) (And.intro e61 (And.intro e62 e63)))))))
  have HQ := Lib.hid (And.intro hq (And.intro hp hf))
  have HG := Lib.hid hG
  have HS := Lib.hid (And.intro hW hH)
  have HGS := Lib.hid hgs
  have t1 : (X0 % 176 != 0) = false := by rw [x3]; rfl
  have t2 : (Y0 % 48 != 0) = false := by rw [y3]; rfl
  have hb := Below.refl w.heap.size w
  clear hX0 hY0 c1 c2 c3 d1 d2 d3 e11 e12 e13 e21 e22 e23 e31 e32 e33 e41 e42 e43 e51 e52 e53 e61 e62 e63 hq hp hf hG hgs kx ky x3 y3 hGm hF hW hH
  go_enter Try.func12, Try.ntmps12
  go_wp2_with (first
    | (go_at_call 21; refine (pick_any _ _ _ (by omega) (by omega) (by decide) (by decide)).mono ?_; (first | rw [HQ.out.1] | rw [HQ.out.2.1] | rw [HQ.out.2.2]); rintro e w' ⟨rfl, rfl⟩)
    | (go_at_call 10; refine (frameKnown_any _).mono ?_; rintro e w1 ⟨rfl, hb'⟩; replace hb := below_next hb hb'; clear hb')
    | (go_at_call 39; refine (Groups_any 0 _).mono ?_; rw [HGS.out]; rintro e w2 ⟨⟨l, rfl, hl0⟩, hb'⟩; replace hb := below_next hb hb'; clear hb'; obtain ⟨lb, loff, lcap, rfl, hlb, hlc, hcell⟩ := (Rd.of_owns (xs := [1, 3, 5]) hl0 (by decide)).solid (by decide); have hc := hcell p hpb; rw [HG.out] at hc; clear hcell hl0)
    | (go_at_call 46; refine (Corner_any _ _ _ _ (by decide) (by decide)).mono ?_; rw [HC.out.1, HC.out.2.1, HC.out.2.2]; rintro e w3 ⟨rfl, hb'⟩; replace hb := below_next hb hb'; clear hb')
    | (go_at_call 37; refine (size_any _ _).mono ?_; rw [HS.out.1, HS.out.2]; rintro e w' ⟨rfl, rfl⟩)
    | (go_at_call 52; refine (corner_true _ _ _ _ _ _ _ (by omega) (by omega) (by have := HD.out; omega) (by have := HD.out; omega) (by have := HD.out; omega)).mono ?_; rintro e w3 ⟨rfl, hb'⟩; replace hb := below_next hb hb'; clear hb')
    | (go_at_call 53; refine (place_true _ _ _ _ _ _ _ _ (by omega) (by omega) (by have := HP.out; omega) (by have := HP.out; omega) (by have := HP.out; omega)).mono ?_; rintro e w4 ⟨rfl, hb'⟩; replace hb := below_next hb hb'; clear hb'))
  go_ret
  exact ⟨rfl, hb⟩

set_option maxRecDepth 100000 in
set_option maxHeartbeats 4000000 in
theorem frameRows_1 (x y z : Int) (w : World) (hx0 : -9223372036854775808 ≤ x) (hx1 : x ≤ 9223372036854775807) (hy0 : -9223372036854775808 ≤ y) (hy1 : y ≤ 9223372036854775807) (hz0 : -9223372036854775808 ≤ z) (hz1 : z ≤ 9223372036854775807) (hf : x % 2 = 1) :
    Calls Try.prog 12 #[.int .i64 x, .int .i64 y, .int .i64 z] w fun e w' => e = .returned (.bool true) ∧ Below w.heap.size w w' := by
  obtain ⟨q, hq⟩ : ∃ q, z % 33 = q := ⟨_, rfl⟩
  have hqb : 0 ≤ q ∧ q ≤ 32 := by omega
  obtain ⟨p, hp⟩ : ∃ p : Nat, y % 12 = p := ⟨(y % 12).toNat, by omega⟩
  have hpb : p < 12 := by omega
  have hgs : groupsS 1 = [1, 2, 3, 4, 5, 6, 7, 8, 9, 10, 11, 12] := rfl
  obtain ⟨G, hG⟩ : ∃ G, ([1, 2, 3, 4, 5, 6, 7, 8, 9, 10, 11, 12] : List Int)[p]?.getD 0 = G := ⟨_, rfl⟩
  have hGm : G ∈ groupsS 1 := by
    rw [hgs, ← hG, List.getElem?_eq_getElem (by exact hpb), Option.getD_some]
    exact List.getElem_mem _
  have hGb := groups_bd hGm
  have hF : (1 : Int) = 0 ∨ (1 : Int) = 1 := by decide
  obtain ⟨c1, c2, c3⟩ := corn_val hF hGm (a := 1) (by omega)
  obtain ⟨d1, d2, d3⟩ := corn_val hF hGm (a := 1 + q) (by omega)
  have hW : wideS 1 = 352 := rfl
  have hH : highS 1 = 288 := rfl
  obtain ⟨e11, e12, e13⟩ := pl_val hF hGm (a := 1 + q) (b := 1) (by omega) (by decide)
  obtain ⟨e21, e22, e23⟩ := pl_val hF hGm (a := 1 + q) (b := 2) (by omega) (by decide)
  obtain ⟨e31, e32, e33⟩ := pl_val hF hGm (a := 1 + q) (b := 3) (by omega) (by decide)
  obtain ⟨e41, e42, e43⟩ := pl_val hF hGm (a := 1 + q) (b := 4) (by omega) (by decide)
  obtain ⟨e51, e52, e53⟩ := pl_val hF hGm (a := 1 + q) (b := 5) (by omega) (by decide)
  obtain ⟨e61, e62, e63⟩ := pl_val hF hGm (a := 1 + q) (b := 6) (by omega) (by decide)
  simp [plcV, plcS, hW, hH] at e12 e13 e22 e23 e32 e33 e42 e43 e52 e53 e62 e63
  obtain ⟨X0, hX0⟩ : ∃ X0, cornX 1 G 1 = X0 := ⟨_, rfl⟩
  obtain ⟨Y0, hY0⟩ : ∃ Y0, cornY 1 G 1 = Y0 := ⟨_, rfl⟩
  have xs : 0 ≤ X0 ∧ X0 ≤ 176 ∧ X0 % 176 = 0 ∧ 0 ≤ Y0 ∧ Y0 ≤ 240 ∧ Y0 % 48 = 0 ∧ cornerX 1 G (1 + q) = X0 + q % 11 * 16 ∧ cornerY G (1 + q) = Y0 + q / 11 * 16 := by
    rw [← hX0, ← hY0, c2, c3]
    unfold cornerX cornerY
    clear e12 e22 e32 e42 e52 e62
    omega
  obtain ⟨x1, x2, x3, y1, y2, y3, kx, ky⟩ := xs
  rw [kx, ky] at e12 e22 e32 e42 e52 e62
  rw [kx] at d2
  rw [ky] at d3
  have HC := Lib.hid (And.intro hX0 (And.intro hY0 c1))
  have HD := Lib.hid (And.intro d1 (And.intro d2 d3))
  have HP := Lib.hid (And.intro (And.intro e11 (And.intro e12 e13)) (And.intro (And.intro e21 (And.intro e22 e23)) (And.intro (And.intro e31 (And.intro e32 e33)) (And.intro (And.intro e41 (And.intro e42 e43)) (And.intro (And.intro e51 (And.intro e52 e53)) (And.intro e61 (And.intro e62 e63)))))))
  have HQ := Lib.hid (And.intro hq (And.intro hp hf))
  have HG := Lib.hid hG
  have HS := Lib.hid (And.intro hW hH)
  have HGS := Lib.hid hgs
  have t1 : (X0 % 176 != 0) = false := by rw [x3]; rfl
  have t2 : (Y0 % 48 != 0) = false := by rw [y3]; rfl
  have hb := Below.refl w.heap.size w
  clear hX0 hY0 c1 c2 c3 d1 d2 d3 e11 e12 e13 e21 e22 e23 e31 e32 e33 e41 e42 e43 e51 e52 e53 e61 e62 e63 hq hp hf hG hgs kx ky x3 y3 hGm hF hW hH
  go_enter Try.func12, Try.ntmps12
  go_wp2_with (first
    | (go_at_call 21; refine (pick_any _ _ _ (by omega) (by omega) (by decide) (by decide)).mono ?_; (first | rw [HQ.out.1] | rw [HQ.out.2.1] | rw [HQ.out.2.2]); rintro e w' ⟨rfl, rfl⟩)
    | (go_at_call 10; refine (frameKnown_any _).mono ?_; rintro e w1 ⟨rfl, hb'⟩; replace hb := below_next hb hb'; clear hb')
    | (go_at_call 39; refine (Groups_any 1 _).mono ?_; rw [HGS.out]; rintro e w2 ⟨⟨l, rfl, hl0⟩, hb'⟩; replace hb := below_next hb hb'; clear hb'; obtain ⟨lb, loff, lcap, rfl, hlb, hlc, hcell⟩ := (Rd.of_owns (xs := [1, 2, 3, 4, 5, 6, 7, 8, 9, 10, 11, 12]) hl0 (by decide)).solid (by decide); have hc := hcell p hpb; rw [HG.out] at hc; clear hcell hl0)
    | (go_at_call 46; refine (Corner_any _ _ _ _ (by decide) (by decide)).mono ?_; rw [HC.out.1, HC.out.2.1, HC.out.2.2]; rintro e w3 ⟨rfl, hb'⟩; replace hb := below_next hb hb'; clear hb')
    | (go_at_call 37; refine (size_any _ _).mono ?_; rw [HS.out.1, HS.out.2]; rintro e w' ⟨rfl, rfl⟩)
    | (go_at_call 52; refine (corner_true _ _ _ _ _ _ _ (by omega) (by omega) (by have := HD.out; omega) (by have := HD.out; omega) (by have := HD.out; omega)).mono ?_; rintro e w3 ⟨rfl, hb'⟩; replace hb := below_next hb hb'; clear hb')
    | (go_at_call 53; refine (place_true _ _ _ _ _ _ _ _ (by omega) (by omega) (by have := HP.out; omega) (by have := HP.out; omega) (by have := HP.out; omega)).mono ?_; rintro e w4 ⟨rfl, hb'⟩; replace hb := below_next hb hb'; clear hb'))
  go_ret
  exact ⟨rfl, hb⟩

theorem frameRows_any (x y z : Int) (w : World) (hx : -9223372036854775808 ≤ x ∧ x ≤ 9223372036854775807) (hy : -9223372036854775808 ≤ y ∧ y ≤ 9223372036854775807) (hz : -9223372036854775808 ≤ z ∧ z ≤ 9223372036854775807) :
    Calls Try.prog 12 #[.int .i64 x, .int .i64 y, .int .i64 z] w fun e w' => e = .returned (.bool true) ∧ Below w.heap.size w w' := by
  rcases (show x % 2 = 0 ∨ x % 2 = 1 by omega) with h | h
  · exact frameRows_0 x y z w hx.1 hx.2 hy.1 hy.2 hz.1 hz.2 h
  · exact frameRows_1 x y z w hx.1 hx.2 hy.1 hy.2 hz.1 hz.2 h
end Go.Proofs.Ytcieggaihelacaa
