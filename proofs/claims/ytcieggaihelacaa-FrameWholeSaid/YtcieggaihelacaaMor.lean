/- Layer 14's statement MotionFetches, walked. -/
import Derived.Test.YtcieggaihelacaaMoq
set_option linter.unusedSimpArgs false
set_option linter.unusedVariables false
namespace Go.Proofs.Ytcieggaihelacaa
open Go.RowKit
set_option maxRecDepth 100000
theorem fetL_le (f g a b x y : Int) (xs : List Int) : (fetL f g a xs b x y).length ≤ 64 := by
  unfold fetL; split
  · simp
  · simp
theorem owns_below {w w' : World} {base size n : Nat} {e : TypeId} {v : Value} {xs : List Value} (h : w.ownsRow base e size v n xs) (hb : Below w.heap.size w w') : w'.ownsRow base e size v n xs :=
  h.kept (below_grown hb none) (by by_cases hn : v.ownBlock = none; exact .inl hn; exact .inr hn)
theorem Rd.grown {k : IntKind} {w w' : World} {v : Value} {xs : List Int} {row : Option Nat} (h : Rd k w v xs) (hg : w.grownBy w' row) (hne : ∀ b, v.ownBlock = some b → some b ≠ row) : Rd k w' v xs :=
  h.kept hg.size (fun b hb => hg.block b (h.block b hb) (hne b hb))
theorem Lies.grown {L : List (Nat × Obj)} {V U : World} {row : Option Nat} (h : Lies L V) (hg : V.grownBy U row) (hne : ∀ p ∈ L, some p.1 ≠ row) : Lies L U := fun p hp => (hg.block _ (blk_lt (h p hp)) (hne p hp)).trans (h p hp)
set_option maxHeartbeats 2000000 in
theorem motionFetches_any (f g a b x y p q c : Int) (w : World) (hf0 : -9223372036854775808 ≤ f) (hf1 : f ≤ 9223372036854775807) (ha : -9223372036854775808 ≤ a) (ha2 : a ≤ 9223372036854775807) (hx0 : -9223372036854775808 ≤ x) (hx1 : x ≤ 9223372036854775807) (hy0 : -9223372036854775808 ≤ y) (hy1 : y ≤ 9223372036854775807) (hc0 : -9223372036854775808 ≤ c) (hc1 : c ≤ 9223372036854775807) :
    Calls Try.prog 3 #[.agg #[.int .i64 f, .int .i64 g, .int .i64 a], .int .i64 b, .int .i64 x, .int .i64 y, .int .i64 p, .int .i64 q, .int .i64 c] w fun e w' => e = .returned (.bool true) ∧ Below w.heap.size w w' := by
  obtain ⟨n, m, hn, hm, hb38, hb15, hmx⟩ : ∃ n m : Nat, (n : Int) = bytesS (f % 2) ∧ m ≤ n ∧ 37000 ≤ m ∧ n ≤ 152064 ∧ max 0 ((n : Int) - c % 101) = (m : Int) := by
    rcases (show f % 2 = 0 ∨ f % 2 = 1 by omega) with h | h
    · rw [h]; exact ⟨38016, (38016 - c % 101).toNat, rfl, by omega, by omega, by omega, by omega⟩
    · rw [h]; exact ⟨152064, (152064 - c % 101).toNat, rfl, by omega, by omega, by omega, by omega⟩
  have hfc : f % 2 = 0 ∨ f % 2 = 1 := by omega
  have hcb : 0 ≤ c % 101 ∧ c % 101 ≤ 100 := by omega
  generalize hff : f % 2 = ff at *
  generalize hcc : c % 101 = cc at *
  have HFF := Lib.hid hff
  have HCC := Lib.hid hcc
  have HN := Lib.hid hn
  have hb0 := (Below.refl w.heap.size w).alloc (Nat.le_refl _) (Obj.cells #[.int .i64 f, .int .i64 g, .int .i64 a] 23)
  have hn0 := World.alloc_heap_new w (Obj.cells #[.int .i64 f, .int .i64 g, .int .i64 a] 23)
  have HL0 := Lib.hid ((Lies.nil w).alloc (Obj.cells #[.int .i64 f, .int .i64 g, .int .i64 a] 23))
  have HB0 := Lib.hid hb0
  clear hff hcc hn hb0 hn0
  go_enter Try.func3, Try.ntmps3
  go_wp2_with (first
    | (go_at_call 21; refine (pick_any _ _ _ (by omega) (by omega) (by decide) (by decide)).mono ?_; (first | rw [HFF.out] | rw [HCC.out]); rintro e w' ⟨rfl, rfl⟩)
    | (go_at_call 24; refine (rfetch_any f g a b x y _ ys w3 (HI2.out.below HB3.out) ha ha2).mono ?_; rw [HYS.out]; rintro e w4 ⟨⟨v, rfl, hv⟩, hb4⟩; have HV := Lib.hid hv; have HL4 := Lib.hid (HL3.out.next hb4); have HB4 := Lib.hid hb4; clear hv hb4; have k0 := HL4.out.head; have c04 := blk_cell k0 0; have c14 := blk_cell k0 1; have c24 := blk_cell k0 2; simp only [List.getElem?_toArray, List.getElem?_cons_zero, List.getElem?_cons_succ] at c04 c14 c24; clear k0)
    | (go_at_call 23; refine (fetch_any f g a b x y _ ys w2 HR2.out ha ha2 hx0 hx1 hy0 hy1).mono ?_; rw [HYS.out]; rintro e w3 ⟨⟨u, rfl, hu⟩, hb3⟩; have HU := Lib.hid hu; have HL3 := Lib.hid (HL2.out.next hb3); have HB3 := Lib.hid hb3; clear hu hb3; have k0 := HL3.out.head; have c03 := blk_cell k0 0; have c13 := blk_cell k0 1; have c23 := blk_cell k0 2; simp only [List.getElem?_toArray, List.getElem?_cons_zero, List.getElem?_cons_succ] at c03 c13 c23; clear k0)
    | (go_at_call 22; refine (lentBytes_any _ ys _ HI1.out (by rw [HYS.out]; omega)).mono ?_; rw [HYS.out]; rintro e w2 ⟨⟨gl, tl, rfl, hgl, hp2, hmx2⟩, hb2⟩; have hr2 := hp2.rd (by rw [HYS.out]; omega) (c := m + (4 + tl.length)) (by rw [HYS.out]; omega); rw [HYS.out] at hr2; have HR2 := Lib.hid hr2; have HP2 := Lib.hid hp2; have HL2 := Lib.hid (HL1.out.next hb2); have HI2 := Lib.hid (HI1.out.below hb2); have HB2 := Lib.hid (below_nxt HB1.out hb2); clear hp2 hr2 hb2; have k0 := HL2.out.head; have c02 := blk_cell k0 0; have c12 := blk_cell k0 1; have c22 := blk_cell k0 2; simp only [List.getElem?_toArray, List.getElem?_cons_zero, List.getElem?_cons_succ] at c02 c12 c22; clear k0)
    | (go_at_call 20; refine (scene_any ff p q _ hfc).mono ?_; rintro e w1 ⟨⟨gs, ns, xs, rfl, hns, hxs, hby, hgs, hp1⟩, hb1⟩; have hnn : ns = n := (by have := HN.out; omega); subst hnn; obtain ⟨ys, hys0⟩ : ∃ ys, xs.take m = ys := ⟨_, rfl⟩; have HYS : Hid (ys.length = m) := Lib.hid (by rw [← hys0, List.length_take]; omega); have hi1 : Rd .u8 w1 (.slice (some ⟨gs, 0, none⟩) m ns) ys := (by have h := (hp1.rd (by omega) (c := ns) (by omega)).sub 0 m ns (by omega) (by omega); rw [List.drop_zero, hys0, Nat.zero_add] at h; exact h); have HI1 := Lib.hid hi1; have HL1 := Lib.hid (HL0.out.next hb1); have HB1 := Lib.hid (below_nxt HB0.out hb1); clear hns hxs hp1 hby hb1 hi1 hys0))
  have hF := fetL_le f g a b x y ys
  obtain ⟨F, hFF⟩ : ∃ F, fetL f g a ys b x y = F := ⟨_, rfl⟩
  rw [hFF] at hF HU HV
  have HFL := Lib.hid hF
  have hwf : ∀ f, Fence.wide.fn f := fun _ => trivial
  have hwd : Fence.wide.depth = none := rfl
  clear hFF hF c02 c12 c22 c03 c13 c23 c04 c14 c24
  refine wp_region_mix (fun w' => w'.heap[w.heap.size]? = some (.cells #[.int .i64 f, .int .i64 g, .int .i64 a] 23 (0, 0))) [19] [(0, true), (1, true), (2, false), (3, true), (4, true), (5, true), (6, true), (7, true), (8, true), (9, true), (10, true), (11, true), (13, true), (14, true), (15, true), (12, false), (16, false), (17, false), (18, false), (19, false)] (by kernel_rfl) (by kernel_rfl) rfl (by kernel_rfl) HL4.out.head ?_
  iterate 2 (refine mix_q rfl rfl (fun w' hB => by go_simp; rfl) ?_; simp only [Act.put, List.setIfInBounds_toArray, List.set_cons_succ, List.set_cons_zero])
  refine mix_e rfl rfl ?_
  go_simp
  refine (callsIn_wide.2 (sameBytes_true u v F _ (((Rd.of_owns HU.out (by have := HFL.out; omega)).below HB4.out).drewN 1) ((Rd.of_owns HV.out (by have := HFL.out; omega)).drewN 1))).mono ?_
  rintro e w5 ⟨rfl, rfl⟩
  refine ⟨HL4.out.head, ?_⟩
  iterate 6 (refine mix_q rfl rfl (fun w' hB => by go_simp; rfl) ?_; simp only [Act.put, List.setIfInBounds_toArray, List.set_cons_succ, List.set_cons_zero])
  refine mix_q rfl rfl (fun w' hB => by have c0 := blk_cell hB 0; have c1 := blk_cell hB 1; have c2 := blk_cell hB 2; simp only [List.getElem?_toArray, List.getElem?_cons_zero, List.getElem?_cons_succ] at c0 c1 c2; go_simp; rfl) ?_; simp only [Act.put, List.setIfInBounds_toArray, List.set_cons_succ, List.set_cons_zero]
  iterate 2 (refine mix_q rfl rfl (fun w' hB => by go_simp; rfl) ?_; simp only [Act.put, List.setIfInBounds_toArray, List.set_cons_succ, List.set_cons_zero])
  refine mix_q rfl rfl (fun w' hB => by have c0 := blk_cell hB 0; have c1 := blk_cell hB 1; have c2 := blk_cell hB 2; simp only [List.getElem?_toArray, List.getElem?_cons_zero, List.getElem?_cons_succ] at c0 c1 c2; go_simp; rfl) ?_; simp only [Act.put, List.setIfInBounds_toArray, List.set_cons_succ, List.set_cons_zero]
  iterate 2 (refine mix_q rfl rfl (fun w' hB => by go_simp; rfl) ?_; simp only [Act.put, List.setIfInBounds_toArray, List.set_cons_succ, List.set_cons_zero])
  refine mix_e rfl rfl ?_
  go_simp
  refine (callsIn_wide.2 (fits_any _ _ _ _ _ _ ha ha2 hx0 hx1 hy0 hy1)).mono ?_
  rintro e w5 ⟨rfl, hb5⟩
  have HB5 := Lib.hid (below_nxt (below_drewN HB4.out 1) hb5)
  have HL5 := Lib.hid ((show Lies _ w4.drew from HL4.out).next hb5)
  refine ⟨HL5.out.head, ?_⟩
  clear hb5
  refine mix_e rfl rfl ?_
  go_simp
  refine (callsIn_wide.2 (rfits_any _ _ _ _ _ _ ha ha2)).mono ?_
  rintro e w6 ⟨rfl, hb6⟩
  have HB6 := Lib.hid (below_nxt HB5.out hb6)
  have HL6 := Lib.hid (HL5.out.next hb6)
  refine ⟨HL6.out.head, ?_⟩
  clear hb6
  iterate 2 (refine mix_e rfl rfl ?_; go_simp; refine ⟨HL6.out.head, ?_⟩)
  refine mix_e rfl rfl ?_
  go_simp
  refine mix_nil ?_
  have HU6 := Lib.hid (owns_below HU.out HB6.out)
  have HI6 := Lib.hid ((HI2.out.below HB3.out).below HB6.out)
  have HP6 := Lib.hid ((HP2.out.below HB3.out).below HB6.out)
  have HZ2 := Lib.hid (And.intro HP2.out.lt (And.intro HB2.out.size (And.intro HB3.out.size HB6.out.size)))
  have hrow : ∀ k, u.ownBlock = some k → w2.heap.size ≤ k := fun k e => (HU.out.lt k e).1
  have HROW := Lib.hid hrow
  have hg1 : w2.heap.size > gs := by
    obtain ⟨b', o', c', e, hb', _⟩ := HI2.out.solid (by rw [HYS.out]; omega)
    injection e with e; injection e with e; injection e with e; omega
  clear hrow
  go_wp2_with (first
    | (go_at_call 28; refine (overBytes_any u w2.heap.size F w6 HU6.out (by have := HFL.out; omega)).mono ?_; rintro e w7 ⟨⟨r, rfl⟩, h7⟩; have HI7 := Lib.hid (HI6.out.grown h7 (fun b hb e => by simp only [Value.ownBlock, Option.some.injEq] at hb; subst hb; have := HROW.out _ e.symm; omega)); have HP7 := Lib.hid (HP6.out.kept h7 (fun e => by have := HROW.out _ e.symm; have := HZ2.out; omega)); have HB7 := Lib.hid ((HB2.out.trans ((HB3.out.mono HB2.out.size).trans (HB6.out.mono (by have := HZ2.out; omega)))).grown h7 (by have := HZ2.out; omega) (fun j e => by have := HROW.out j e; have := HZ2.out; omega)); clear h7)
    | (go_at_call 29; have hk := keptBytes_true gl _ ys tl w7 HP7.out HI7.out (by rw [HYS.out]; omega) (by rw [HYS.out]; exact hmx2); rw [HYS.out] at hk; refine hk.mono ?_; clear hk; rintro e w8 ⟨rfl, hb8⟩; have HB8 := Lib.hid (below_nxt HB7.out hb8); clear hb8)
    | (go_at_call 30; refine (awake14_any _).mono ?_; rintro e w9 ⟨rfl, hb9⟩; have HB9 := Lib.hid (below_nxt HB8.out hb9); clear hb9))
  go_ret
  exact ⟨rfl, HB9.out⟩
end Go.Proofs.Ytcieggaihelacaa
