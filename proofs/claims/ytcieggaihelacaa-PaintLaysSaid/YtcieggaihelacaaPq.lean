/- Layer 16's statements: PaintLays, walked. -/
import Derived.Test.YtcieggaihelacaaPp
set_option linter.unusedSimpArgs false
set_option linter.unusedVariables false
namespace Go.Proofs.Ytcieggaihelacaa
open Go.RowKit
set_option maxRecDepth 100000
set_option maxHeartbeats 8000000 in
theorem paintLays_short (f g a b p q r l k : Int) (v : Value) (ss : List Int) (w : World) (hs : Rd .u8 w v ss) (hss : ss.length ≤ 80) (ha : -9223372036854775808 ≤ a) (ha2 : a ≤ 9223372036854775807)
    (hf0 : -9223372036854775808 ≤ f) (hf1 : f ≤ 9223372036854775807) (hl0 : -9223372036854775808 ≤ l) (hl1 : l ≤ 9223372036854775807) (hk0 : -9223372036854775808 ≤ k) (hk1 : k ≤ 9223372036854775807) :
    Calls Try.prog 17 #[.agg #[.int .i64 f, .int .i64 g, .int .i64 a], .int .i64 b, v, .int .i64 p, .int .i64 q, .int .i64 r, .int .i64 l, .int .i64 k] w fun e w' => e = .returned (.bool true) ∧ Below w.heap.size w w' := by
  obtain ⟨n, hn, hn2⟩ : ∃ n : Nat, (n : Int) = bytesS (f % 2) ∧ (n = 38016 ∨ n = 152064) := by
    rcases (show f % 2 = 0 ∨ f % 2 = 1 by omega) with h | h
    · rw [h]; exact ⟨38016, rfl, .inl rfl⟩
    · rw [h]; exact ⟨152064, rfl, .inr rfl⟩
  obtain ⟨m, hm, hmn⟩ : ∃ m : Nat, max 0 ((n : Int) - l % 101) = (m : Int) ∧ m ≤ n := ⟨((n : Int) - l % 101).toNat, by omega, by omega⟩
  obtain ⟨o, ho, hon⟩ : ∃ m : Nat, max 0 ((n : Int) - k % 101) = (m : Int) ∧ m ≤ n := ⟨((n : Int) - k % 101).toNat, by omega, by omega⟩
  have hnb : n ≤ 152064 := by omega
  have hfc : f % 2 = 0 ∨ f % 2 = 1 := by omega
  have hlb : 0 ≤ l % 101 ∧ l % 101 ≤ 100 := by omega
  have hkb : 0 ≤ k % 101 ∧ k % 101 ≤ 100 := by omega
  clear hn2
  generalize hff : f % 2 = ff at *
  generalize hcc : l % 101 = cc at *
  generalize hdd : k % 101 = dd at *
  obtain ⟨va, vc, rfl⟩ := hs.form
  obtain ⟨ns, hns⟩ : ∃ ns, ss.length = ns := ⟨_, rfl⟩
  have hgt : ¬ 80 < (ns : Int) := by omega
  have HSS := Lib.hid hns
  have HFF := Lib.hid hff
  have HCC := Lib.hid hcc
  have HDD := Lib.hid hdd
  have HN := Lib.hid hn
  rw [hns] at hs hss ⊢
  have HV0 := Lib.hid hs
  have hb0 := (Below.refl w.heap.size w).alloc (Nat.le_refl _) (Obj.cells #[.int .i64 f, .int .i64 g, .int .i64 a] 23)
  have hn0 := World.alloc_heap_new w (Obj.cells #[.int .i64 f, .int .i64 g, .int .i64 a] 23)
  have HV := Lib.hid (hs.alloc (Obj.cells #[.int .i64 f, .int .i64 g, .int .i64 a] 23))
  have HB0 := Lib.hid hb0
  have HBX := Lib.hid hn0
  have S0 := Lib.hid (St.nil (w.alloc (Obj.cells #[.int .i64 f, .int .i64 g, .int .i64 a] 23)))
  clear hff hcc hdd hn hb0 hn0 hs hns
  go_enter Try.func17, Try.ntmps17
  go_wp2_with (first
    | (go_at_call 21; refine (pick_any _ _ _ (by omega) (by omega) (by decide) (by decide)).mono ?_; rw [HFF.out]; rintro e w' ⟨rfl, rfl⟩)
    | (go_at_call 20; (with_reducible refine (scene_any ff r q w1 hfc).mono ?_); rintro e w2 ⟨⟨g2, n2, ys, rfl, hn2, hys, _, hg2, hp2⟩, hb2⟩; have hnn : n = n2 := (by have := HN.out; omega); subst hnn; have S2 := Lib.hid (S1.out.push hb2 hg2 hp2); have HYS := Lib.hid hys; clear hn2 hys hg2 hp2 hb2)
    | (go_at_call 20; refine (scene_any ff p q _ hfc).mono ?_; rintro e w1 ⟨⟨g1, n1, xs, rfl, hn1, hxs, _, hg1, hp1⟩, hb1⟩; have hnn : n = n1 := (by have := HN.out; omega); subst hnn; have S1 := Lib.hid (S0.out.push hb1 hg1 hp1); have HXS := Lib.hid hxs; clear hn1 hxs hg1 hp1 hb1))
  have hwf : ∀ f, Fence.wide.fn f := fun _ => trivial
  have hwd : Fence.wide.depth = none := rfl
  have hw1 : IntKind.i64.wrap ((n : Int) - cc) = (n : Int) - cc := w64 (by omega) (by omega)
  have hw2 : IntKind.i64.wrap ((n : Int) - dd) = (n : Int) - dd := w64 (by omega) (by omega)
  have hmn' : (m : Int) ≤ n := by omega
  have hon' : (o : Int) ≤ n := by omega
  refine wp_region_mix (fun _ => True) [] [(0, true), (1, true), (2, true), (3, true), (8, true), (9, true), (10, true), (11, true), (4, false), (5, true), (6, true), (7, true), (12, false), (13, true), (14, true), (15, true), (16, true), (17, true)] (by kernel_rfl) (by kernel_rfl) rfl (by kernel_rfl) trivial ?_
  iterate 8 (refine mix_q rfl rfl (fun w' hB => by go_simp; rfl) ?_; simp only [Act.put, List.setIfInBounds_toArray, List.set_cons_succ, List.set_cons_zero])
  refine mix_e rfl rfl ?_
  go_simp
  refine (callsIn_wide.2 (pick_any l 101 _ hl0 hl1 (by decide) (by decide))).mono ?_
  rw [HCC.out]
  rintro e w' ⟨rfl, rfl⟩
  iterate 3 (refine mix_q rfl rfl (fun w' hB => by go_simp; rfl) ?_; simp only [Act.put, List.setIfInBounds_toArray, List.set_cons_succ, List.set_cons_zero])
  refine mix_e rfl rfl ?_
  go_simp
  refine (callsIn_wide.2 (pick_any k 101 _ hk0 hk1 (by decide) (by decide))).mono ?_
  rw [HDD.out]
  rintro e w' ⟨rfl, rfl⟩
  iterate 5 (refine mix_q rfl rfl (fun w' hB => by go_simp; rfl) ?_; simp only [Act.put, List.setIfInBounds_toArray, List.set_cons_succ, List.set_cons_zero])
  refine mix_nil ?_
  have S2a := (S2.out.drewN 1).upd 0 rfl (World.grownBy.refl _ _) (((S2.out.drewN 1).pic 0 rfl).split o)
  have S2b := S2a.upd 1 rfl (World.grownBy.refl _ _) ((S2a.pic 1 rfl).split m)
  obtain ⟨X, hX⟩ : ∃ X, xs.take m = X := ⟨_, rfl⟩
  obtain ⟨Y, hY⟩ : ∃ Y, ys.take o = Y := ⟨_, rfl⟩
  obtain ⟨t1, ht1⟩ : ∃ t, (xs.drop m).map (Value.int .u8) ++ [] = t := ⟨_, rfl⟩
  obtain ⟨t2, ht2⟩ : ∃ t, (ys.drop o).map (Value.int .u8) ++ [] = t := ⟨_, rfl⟩
  have SA : Hid (St (w.alloc (Obj.cells #[.int .i64 f, .int .i64 g, .int .i64 a] 23)) [(g2, Y, t2), (g1, X, t1)] w2.drew) := by
    rw [hX, hY, ht1, ht2] at S2b; exact S2b
  have HX : Hid (X.length = m) := by rw [← hX, List.length_take]; have := HXS.out; exact (by omega : min m xs.length = m)
  have HY : Hid (Y.length = o) := by rw [← hY, List.length_take]; have := HYS.out; exact (by omega : min o ys.length = o)
  obtain ⟨E, hE⟩ : ∃ E, layE f g a m ns b = E := ⟨_, rfl⟩
  obtain ⟨X1, hX1⟩ : ∃ X1, layL f g a b X ss = X1 := ⟨_, rfl⟩
  obtain ⟨E2, hE2⟩ : ∃ E, cpE f g a m o = E := ⟨_, rfl⟩
  obtain ⟨X2, hX2⟩ : ∃ X2, cpL f g a X1 Y = X2 := ⟨_, rfl⟩
  have HX1 : Hid (X1.length = m) := by rw [← hX1, layL_len]; exact HX.out
  have HX2 : Hid (X2.length = m) := by rw [← hX2, cpL_len]; exact HX1.out
  have HE := Lib.hid (And.intro hE hX1)
  have HE2 := Lib.hid (And.intro hE2 hX2)
  have hmb : m ≤ 1000000 := by omega
  have hob : o ≤ 1000000 := by omega
  clear S2a S2b hX hY ht1 ht2 hE hX1 hE2 hX2 hw1 hw2 hm ho
  go_wp2_with (first
    | (go_at_call 22; (with_reducible refine (lent_n _ X w2.drew ((SA.out.pic 1 rfl).rdn HX.out hmb hmn) m HX.out hmb).mono ?_); rintro e w3 ⟨⟨gm, tm, rfl, hgm, hpm, hmm⟩, hb3⟩; have S3 := Lib.hid (SA.out.push hb3 hgm hpm); have HMM := Lib.hid hmm; clear hgm hpm hmm hb3)
    | (go_at_call 22; (with_reducible refine (lent_n _ Y w3 ((S3.out.pic 1 rfl).rdn HY.out hob hon) o HY.out hob).mono ?_); rintro e w4 ⟨⟨go, to, rfl, hgo, hpo, hmo⟩, hb4⟩; have S4 := Lib.hid (S3.out.push hb4 hgo hpo); have HMO := Lib.hid hmo; clear hgo hpo hmo hb4)
    | (go_at_call 22; (with_reducible refine (lent_n _ ss w4 (HV.out.below S4.out.old) ns HSS.out (by omega)).mono ?_); rintro e w5 ⟨⟨gl, tl, rfl, hgl, hpl, hml⟩, hb5⟩; have S5 := Lib.hid (S4.out.push hb5 hgl hpl); have HML := Lib.hid hml; clear hgl hpl hml hb5))
  have S5d := Lib.hid (S5.out.drewN 1)
  have BX : ∀ L w', St (w.alloc (Obj.cells #[.int .i64 f, .int .i64 g, .int .i64 a] 23)) L w' → w'.heap[w.heap.size]? = some (Obj.cells #[.int .i64 f, .int .i64 g, .int .i64 a] 23) := fun _ _ h => blk_kept HBX.out (below_grown h.1 none) (by simp)
  have VN : ∀ L w' (i : Nat) (g' : Nat) (zs : List Int) (zl : List Value), St (w.alloc (Obj.cells #[.int .i64 f, .int .i64 g, .int .i64 a] 23)) L w' → L[i]? = some (g', zs, zl) → ∀ k, (Value.slice va ns vc).ownBlock = some k → k ≠ g' := fun _ _ i _ _ _ h hi k hk e => by
    have h1 := HV.out.block k hk
    have h2 := h.ge i hi
    omega
  have HBXS := Lib.hid BX
  have HVN := Lib.hid VN
  clear BX VN
  refine wp_region_mix (fun w' => w'.heap[w.heap.size]? = some (Obj.cells #[.int .i64 f, .int .i64 g, .int .i64 a] 23)) [] [(0, true), (1, true), (2, true), (3, true), (5, true), (6, true), (7, true), (8, true), (4, false), (9, false), (10, true), (11, true), (12, true), (13, true), (14, false), (15, true), (16, true), (17, true), (18, true), (19, true), (20, false), (21, true), (22, true)] (by kernel_rfl) (by kernel_rfl) rfl (by kernel_rfl) (HBXS.out _ _ S5d.out) ?_
  (refine mix_q rfl rfl (fun w' hB => by go_simp; rfl) ?_; simp only [Act.put, List.setIfInBounds_toArray, List.set_cons_succ, List.set_cons_zero])
  (refine mix_q rfl rfl (fun w' hB => by have c0 := blk_cell hB 0; have c1 := blk_cell hB 1; have c2 := blk_cell hB 2; simp only [List.getElem?_toArray, List.getElem?_cons_zero, List.getElem?_cons_succ] at c0 c1 c2; go_simp; rfl) ?_; simp only [Act.put, List.setIfInBounds_toArray, List.set_cons_succ, List.set_cons_zero])
  iterate 3 (refine mix_q rfl rfl (fun w' hB => by go_simp; rfl) ?_; simp only [Act.put, List.setIfInBounds_toArray, List.set_cons_succ, List.set_cons_zero])
  (refine mix_q rfl rfl (fun w' hB => by have c0 := blk_cell hB 0; have c1 := blk_cell hB 1; have c2 := blk_cell hB 2; simp only [List.getElem?_toArray, List.getElem?_cons_zero, List.getElem?_cons_succ] at c0 c1 c2; go_simp; rfl) ?_; simp only [Act.put, List.setIfInBounds_toArray, List.set_cons_succ, List.set_cons_zero])
  iterate 2 (refine mix_q rfl rfl (fun w' hB => by go_simp; rfl) ?_; simp only [Act.put, List.setIfInBounds_toArray, List.set_cons_succ, List.set_cons_zero])
  refine mix_e rfl rfl ?_
  go_simp
  refine (callsIn_wide.2 (lay_n f g a b gm _ X ss (lent4 ++ tm) (.slice (some ⟨gl, 0, none⟩) ns (ns + (4 + tl.length))) w5.drew (S5d.out.pic 2 rfl) ((S5d.out.pic 0 rfl).rdn HSS.out (by omega) (by omega)) (own_ne (S5d.out.ne 0 2 rfl rfl (by decide))) m ns HX.out HSS.out (by omega) hmb ha ha2)).mono ?_
  rw [HE.out.1, HE.out.2]
  rintro e w6 ⟨rfl, hp6, hg6⟩
  have S6 := Lib.hid (S5d.out.upd 2 rfl hg6 hp6)
  refine ⟨HBXS.out _ _ S6.out, ?_⟩
  clear hp6 hg6
  refine mix_e rfl rfl ?_
  go_simp
  refine (callsIn_wide.2 (rlay_n f g a b g1 n X ss t1 (.slice va ns vc) w6 (S6.out.pic 4 rfl) (HV.out.below S6.out.1) (HVN.out _ _ 4 _ _ _ S6.out rfl) m ns HX.out HSS.out hmn hmb ha ha2)).mono ?_
  rw [HE.out.1, HE.out.2]
  rintro e w7 ⟨rfl, hp7, hg7⟩
  have S7 := Lib.hid (S6.out.upd 4 rfl hg7 hp7)
  refine ⟨HBXS.out _ _ S7.out, ?_⟩
  clear hp7 hg7
  iterate 4 (refine mix_q rfl rfl (fun w' hB => by go_simp; rfl) ?_; simp only [Act.put, List.setIfInBounds_toArray, List.set_cons_succ, List.set_cons_zero])
  refine mix_e rfl rfl ?_
  go_simp
  refine (callsIn_wide.2 (kept_n gm (.slice (some ⟨g1, 0, none⟩) m n) X1 tm w7 (S7.out.pic 2 rfl) ((S7.out.pic 4 rfl).rdn HX1.out hmb hmn) m HX1.out hmb HMM.out)).mono ?_
  rintro e w8 ⟨rfl, hb8⟩
  have S8 := Lib.hid (S7.out.below hb8)
  refine ⟨HBXS.out _ _ S8.out, ?_⟩
  clear hb8
  iterate 5 (refine mix_q rfl rfl (fun w' hB => by go_simp; rfl) ?_; simp only [Act.put, List.setIfInBounds_toArray, List.set_cons_succ, List.set_cons_zero])
  refine mix_e rfl rfl ?_
  go_simp
  refine (callsIn_wide.2 (kept_n gl (.slice va ns vc) ss tl w8 (S8.out.pic 0 rfl) (HV.out.below S8.out.1) ns HSS.out (by omega) HML.out)).mono ?_
  rintro e w9 ⟨rfl, hb9⟩
  have S9 := Lib.hid (S8.out.below hb9)
  refine ⟨HBXS.out _ _ S9.out, ?_⟩
  clear hb9
  iterate 2 (refine mix_q rfl rfl (fun w' hB => by go_simp; rfl) ?_; simp only [Act.put, List.setIfInBounds_toArray, List.set_cons_succ, List.set_cons_zero])
  refine mix_nil ?_
  go_wp2
  have S9d := Lib.hid (S9.out.drewN 1)
  refine wp_region_mix (fun w' => w'.heap[w.heap.size]? = some (Obj.cells #[.int .i64 f, .int .i64 g, .int .i64 a] 23)) [] [(0, true), (1, true), (2, true), (4, true), (5, true), (6, true), (3, false), (7, false), (8, true), (9, true), (10, true), (11, true), (12, false), (13, true), (14, true), (15, true), (16, true), (17, true), (18, false), (19, true), (20, true)] (by kernel_rfl) (by kernel_rfl) rfl (by kernel_rfl) (HBXS.out _ _ S9d.out) ?_
  iterate 2 (refine mix_q rfl rfl (fun w' hB => by go_simp; rfl) ?_; simp only [Act.put, List.setIfInBounds_toArray, List.set_cons_succ, List.set_cons_zero])
  (refine mix_q rfl rfl (fun w' hB => by have c0 := blk_cell hB 0; have c1 := blk_cell hB 1; have c2 := blk_cell hB 2; simp only [List.getElem?_toArray, List.getElem?_cons_zero, List.getElem?_cons_succ] at c0 c1 c2; go_simp; rfl) ?_; simp only [Act.put, List.setIfInBounds_toArray, List.set_cons_succ, List.set_cons_zero])
  iterate 2 (refine mix_q rfl rfl (fun w' hB => by go_simp; rfl) ?_; simp only [Act.put, List.setIfInBounds_toArray, List.set_cons_succ, List.set_cons_zero])
  (refine mix_q rfl rfl (fun w' hB => by have c0 := blk_cell hB 0; have c1 := blk_cell hB 1; have c2 := blk_cell hB 2; simp only [List.getElem?_toArray, List.getElem?_cons_zero, List.getElem?_cons_succ] at c0 c1 c2; go_simp; rfl) ?_; simp only [Act.put, List.setIfInBounds_toArray, List.set_cons_succ, List.set_cons_zero])
  refine mix_e rfl rfl ?_
  go_simp
  refine (callsIn_wide.2 (copy_n f g a gm _ X1 Y (lent4 ++ tm) (.slice (some ⟨go, 0, none⟩) o (o + (4 + to.length))) w9.drew (S9d.out.pic 2 rfl) ((S9d.out.pic 1 rfl).rdn HY.out hob (by omega)) (own_ne (S9d.out.ne 1 2 rfl rfl (by decide))) m o HX1.out HY.out (by omega) hmb ha ha2)).mono ?_
  rw [HE2.out.1, HE2.out.2]
  rintro e w10 ⟨rfl, hp6, hg6⟩
  have S10 := Lib.hid (S9d.out.upd 2 rfl hg6 hp6)
  refine ⟨HBXS.out _ _ S10.out, ?_⟩
  clear hp6 hg6
  refine mix_e rfl rfl ?_
  go_simp
  refine (callsIn_wide.2 (rcopy_n f g a g1 n X1 Y t1 (.slice (some ⟨g2, 0, none⟩) o n) w10 (S10.out.pic 4 rfl) ((S10.out.pic 3 rfl).rdn HY.out hob hon) (own_ne (S10.out.ne 3 4 rfl rfl (by decide))) m o HX1.out HY.out hmn hmb ha ha2)).mono ?_
  rw [HE2.out.1, HE2.out.2]
  rintro e w11 ⟨rfl, hp7, hg7⟩
  have S11 := Lib.hid (S10.out.upd 4 rfl hg7 hp7)
  refine ⟨HBXS.out _ _ S11.out, ?_⟩
  clear hp7 hg7
  iterate 4 (refine mix_q rfl rfl (fun w' hB => by go_simp; rfl) ?_; simp only [Act.put, List.setIfInBounds_toArray, List.set_cons_succ, List.set_cons_zero])
  refine mix_e rfl rfl ?_
  go_simp
  refine (callsIn_wide.2 (kept_n gm (.slice (some ⟨g1, 0, none⟩) m n) X2 tm w11 (S11.out.pic 2 rfl) ((S11.out.pic 4 rfl).rdn HX2.out hmb hmn) m HX2.out hmb HMM.out)).mono ?_
  rintro e w12 ⟨rfl, hb8⟩
  have S12 := Lib.hid (S11.out.below hb8)
  refine ⟨HBXS.out _ _ S12.out, ?_⟩
  clear hb8
  iterate 5 (refine mix_q rfl rfl (fun w' hB => by go_simp; rfl) ?_; simp only [Act.put, List.setIfInBounds_toArray, List.set_cons_succ, List.set_cons_zero])
  refine mix_e rfl rfl ?_
  go_simp
  refine (callsIn_wide.2 (kept_n go (.slice (some ⟨g2, 0, none⟩) o n) Y to w12 (S12.out.pic 1 rfl) ((S12.out.pic 3 rfl).rdn HY.out hob hon) o HY.out hob HMO.out)).mono ?_
  rintro e w13 ⟨rfl, hb9⟩
  have S13 := Lib.hid (S12.out.below hb9)
  refine ⟨HBXS.out _ _ S13.out, ?_⟩
  clear hb9
  iterate 2 (refine mix_q rfl rfl (fun w' hB => by go_simp; rfl) ?_; simp only [Act.put, List.setIfInBounds_toArray, List.set_cons_succ, List.set_cons_zero])
  refine mix_nil ?_
  go_wp2
  have S13d := Lib.hid (S13.out.drewN 1)
  refine wp_region_mix (fun w' => w'.heap[w.heap.size]? = some (Obj.cells #[.int .i64 f, .int .i64 g, .int .i64 a] 23)) [] [(0, true), (1, true), (3, true), (4, true), (2, false), (5, false), (6, false), (7, true), (8, false), (9, true), (10, true)] (by kernel_rfl) (by kernel_rfl) rfl (by kernel_rfl) (HBXS.out _ _ S13d.out) ?_
  (refine mix_q rfl rfl (fun w' hB => by go_simp; rfl) ?_; simp only [Act.put, List.setIfInBounds_toArray, List.set_cons_succ, List.set_cons_zero])
  (refine mix_q rfl rfl (fun w' hB => by have c0 := blk_cell hB 0; have c1 := blk_cell hB 1; have c2 := blk_cell hB 2; simp only [List.getElem?_toArray, List.getElem?_cons_zero, List.getElem?_cons_succ] at c0 c1 c2; go_simp; rfl) ?_; simp only [Act.put, List.setIfInBounds_toArray, List.set_cons_succ, List.set_cons_zero])
  (refine mix_q rfl rfl (fun w' hB => by go_simp; rfl) ?_; simp only [Act.put, List.setIfInBounds_toArray, List.set_cons_succ, List.set_cons_zero])
  (refine mix_q rfl rfl (fun w' hB => by have c0 := blk_cell hB 0; have c1 := blk_cell hB 1; have c2 := blk_cell hB 2; simp only [List.getElem?_toArray, List.getElem?_cons_zero, List.getElem?_cons_succ] at c0 c1 c2; go_simp; rfl) ?_; simp only [Act.put, List.setIfInBounds_toArray, List.set_cons_succ, List.set_cons_zero])
  refine mix_e rfl rfl ?_
  go_simp
  refine (callsIn_wide.2 (grey_any f w13.drew)).mono ?_
  rintro e w14 ⟨⟨r1, rfl, hr1⟩, hb14⟩
  have S14 := Lib.hid (S13d.out.below hb14)
  have R1 := Lib.hid hr1.rd
  refine ⟨HBXS.out _ _ S14.out, ?_⟩
  clear hr1 hb14
  refine mix_e rfl rfl ?_
  go_simp
  refine (callsIn_wide.2 (rgrey_any f w14)).mono ?_
  rintro e w15 ⟨⟨r2, rfl, hr2⟩, hb15⟩
  have S15 := Lib.hid (S14.out.below hb15)
  have R1' := Lib.hid (R1.out.below hb15)
  have R2 := Lib.hid (Rd.of_owns hr2 (greyL_bd f))
  refine ⟨HBXS.out _ _ S15.out, ?_⟩
  clear hr2 hb15
  refine mix_e rfl rfl ?_
  go_simp
  refine (callsIn_wide.2 (sameBytes_true r1 r2 (greyL f) w15 R1'.out R2.out)).mono ?_
  rintro e w' ⟨rfl, rfl⟩
  refine ⟨HBXS.out _ _ S15.out, ?_⟩
  (refine mix_q rfl rfl (fun w' hB => by go_simp; rfl) ?_; simp only [Act.put, List.setIfInBounds_toArray, List.set_cons_succ, List.set_cons_zero])
  refine mix_e rfl rfl ?_
  go_simp
  refine (callsIn_wide.2 (awake16_any w15)).mono ?_
  rintro e w16 ⟨rfl, hb16⟩
  have S16 := Lib.hid (S15.out.below hb16)
  refine ⟨HBXS.out _ _ S16.out, ?_⟩
  clear hb16
  iterate 2 (refine mix_q rfl rfl (fun w' hB => by go_simp; rfl) ?_; simp only [Act.put, List.setIfInBounds_toArray, List.set_cons_succ, List.set_cons_zero])
  refine mix_nil ?_
  go_wp2
  go_ret
  exact ⟨rfl, HB0.out.trans (S16.out.old.mono HB0.out.size)⟩
theorem paintLays_long (f g a b p q r l k : Int) (va : Option Addr) (ns vc : Nat) (w : World) (hn : ns ≤ 9223372036854775807) (h : 80 < ns) :
    Calls Try.prog 17 #[.agg #[.int .i64 f, .int .i64 g, .int .i64 a], .int .i64 b, .slice va ns vc, .int .i64 p, .int .i64 q, .int .i64 r, .int .i64 l, .int .i64 k] w fun e w' => e = .returned (.bool true) ∧ Below w.heap.size w w' := by
  have k1 : decide (80 < (ns : Int)) = true := by simp; omega
  have HB0 := Lib.hid ((Below.refl w.heap.size w).alloc (Nat.le_refl _) (Obj.cells #[.int .i64 f, .int .i64 g, .int .i64 a] 23))
  go_enter Try.func17, Try.ntmps17
  go_wp2_with (go_at_call 55; refine (awake16_any _).mono ?_; rintro e w1 ⟨rfl, hb⟩)
  go_ret
  exact ⟨rfl, below_nxt HB0.out hb⟩
end Go.Proofs.Ytcieggaihelacaa
