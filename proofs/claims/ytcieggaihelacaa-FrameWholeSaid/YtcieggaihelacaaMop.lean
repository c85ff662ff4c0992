/- Layer 14's statements' own helpers: the first eight samples that are fetched of the chapter's picture; some examples. -/
import Derived.Test.YtcieggaihelacaaMoo
set_option linter.unusedSimpArgs false
set_option linter.unusedVariables false
namespace Go.Proofs.Ytcieggaihelacaa
open Go.RowKit
set_option maxRecDepth 100000 in
set_option maxHeartbeats 2000000 in
theorem row14_true (f g a b x y : Int) (v : Value) (L : List Int) (w : World) (hv : Rd .u8 w v L) (ha : -9223372036854775808 ≤ a) (ha2 : a ≤ 9223372036854775807) (hx0 : -9223372036854775808 ≤ x) (hx1 : x ≤ 9223372036854775807) (hy0 : -9223372036854775808 ≤ y) (hy1 : y ≤ 9223372036854775807)
    (hE : fetE f g a 38016 b x y = 0) (hL : (fetL f g a chapL b x y).take 8 = L) :
    Calls Try.prog 35 #[.agg #[.int .i64 f, .int .i64 g, .int .i64 a], .int .i64 b, .int .i64 x, .int .i64 y, v] w fun e w' => e = .returned (.bool true) ∧ Below w.heap.size w w' := by
  have h64 : (fetL f g a chapL b x y).length = 64 := by rw [fetL_len (by rw [chapL_len]; exact hE)]; simp
  obtain ⟨F, hF⟩ : ∃ F, fetL f g a chapL b x y = F := ⟨_, rfl⟩
  have hcl := chapL_len
  rw [hF] at h64 hL
  have HCL := Lib.hid hcl
  have HF := Lib.hid hF
  have H64 := Lib.hid h64
  have HL := Lib.hid hL
  have HE := Lib.hid hE
  have HV := Lib.hid hv
  have hb0 := (Below.refl w.heap.size w).alloc (Nat.le_refl _) (Obj.cells #[.int .i64 f, .int .i64 g, .int .i64 a] 23)
  have hn0 := World.alloc_heap_new w (Obj.cells #[.int .i64 f, .int .i64 g, .int .i64 a] 23)
  have HB0 := Lib.hid hb0
  have HN0 := Lib.hid hn0
  clear hcl hF h64 hL hE hb0 hn0 hv
  have hwf : ∀ f, Fence.wide.fn f := fun _ => trivial
  have hwd : Fence.wide.depth = none := rfl
  go_enter Try.func35, Try.ntmps35
  go_wp2
  refine wp_region_mix (fun w' => w'.heap[w.heap.size]? = some (.cells #[.int .i64 f, .int .i64 g, .int .i64 a] 23 (0, 0))) [10] [(1, true), (2, true), (3, true), (4, true), (0, false), (5, false), (6, true), (7, true), (8, true), (9, false), (10, false)] (by kernel_rfl) (by kernel_rfl) rfl (by kernel_rfl) HN0.out ?_
  refine mix_q rfl rfl (fun w' hB => by have c0 := blk_cell hB 0; have c1 := blk_cell hB 1; have c2 := blk_cell hB 2; simp only [List.getElem?_toArray, List.getElem?_cons_zero, List.getElem?_cons_succ] at c0 c1 c2; go_simp; rfl) ?_; simp only [Act.put, List.setIfInBounds_toArray, List.set_cons_succ, List.set_cons_zero]
  iterate 3 (refine mix_q rfl rfl (fun w' hB => by go_simp; rfl) ?_; simp only [Act.put, List.setIfInBounds_toArray, List.set_cons_succ, List.set_cons_zero])
  refine mix_e rfl rfl ?_
  go_simp
  refine (callsIn_wide.2 (chapter_any _)).mono ?_
  rintro e w2 ⟨⟨r, rfl, hown⟩, hb2⟩
  have hr : Rd .u8 w2 r chapL := Rd.of_owns (by rw [HCL.out]; exact hown) (by rw [HCL.out]; decide)
  have hn2 : w2.heap[w.heap.size]? = some (.cells #[.int .i64 f, .int .i64 g, .int .i64 a] 23 (0, 0)) := (hb2.block w.heap.size (by simp)).trans HN0.out
  have HB2 := Lib.hid (below_nxt (below_drewN HB0.out 1) hb2)
  have HR := Lib.hid hr
  have HN2 := Lib.hid hn2
  refine ⟨hn2, ?_⟩
  clear hr hn2 hb2 hown
  refine mix_e rfl rfl ?_
  go_simp
  refine (callsIn_wide.2 (fetch_any f g a b x y r chapL w2 HR.out ha ha2 hx0 hx1 hy0 hy1)).mono ?_
  rw [HCL.out, HF.out, HE.out, H64.out]
  rintro e w3 ⟨⟨p, rfl, hown⟩, hb3⟩
  have hn3 : w3.heap[w.heap.size]? = some (.cells #[.int .i64 f, .int .i64 g, .int .i64 a] 23 (0, 0)) := (hb3.block w.heap.size (blk_lt HN2.out)).trans HN2.out
  have HB3 := Lib.hid (below_nxt HB2.out hb3)
  have HN3 := Lib.hid hn3
  refine ⟨hn3, ?_⟩
  clear hn3 hb3
  iterate 3 (refine mix_q rfl rfl (fun w' hB => by go_simp; rfl) ?_; simp only [Act.put, List.setIfInBounds_toArray, List.set_cons_succ, List.set_cons_zero])
  refine mix_e rfl rfl ?_
  go_simp
  refine ⟨HN3.out, ?_⟩
  refine mix_e rfl rfl ?_
  go_simp
  refine mix_nil ?_
  have hrF : Rd .u8 w3 p F := Rd.of_owns (by rw [H64.out]; exact hown) (by rw [H64.out]; decide)
  obtain ⟨pb, po, pc, rfl, hpb, hpc, _⟩ := hrF.solid (by rw [H64.out]; decide)
  have hs8 := hrF.sub 0 8 pc (by rw [H64.out]; decide) (by rw [H64.out] at hpc; omega)
  rw [Nat.add_zero, List.drop_zero, HL.out] at hs8
  have hv3 := HV.out.below HB3.out
  rw [H64.out] at hpc ⊢
  have HS8 := Lib.hid hs8
  have HV3 := Lib.hid hv3
  have h8 : 8 ≤ pc := by omega
  clear hown hrF hs8 hv3
  go_wp2_with (go_at_call 25; refine (sameBytes_true _ _ L _ HS8.out HV3.out).mono ?_; rintro e w' ⟨rfl, rfl⟩)
  go_ret
  exact ⟨rfl, HB3.out⟩
/-- A row of numbers, new. -/
theorem Rd.lit (k : IntKind) (t : TypeId) (ns : List Int) (w : World) (h : ns.length ≤ 1000) : Rd k (w.alloc (.cells (ns.map (Value.int k)).toArray t)) (.slice (some ⟨w.heap.size, 0, none⟩) ns.length ns.length) ns :=
  Rd.of_owns (xs := ns) (k := k) (by have := owns_new (w := w) t (ns.map (Value.int k)) (by simp [maxLen]; omega); simpa using this) (by omega)
theorem chap_row (f g a b x y : Int) (ws : List Int) (hE : fetE f g a 38016 b x y = 0) (hq : ∀ k : Nat, k < 8 → (fetI f g a b x y k).toNat < 38016) (hw : ws = (List.range 8).map (fun k => if (fetI f g a b x y k).toNat < 25344 then (((fetI f g a b x y k).toNat % 176 : Nat) : Int) else ((((fetI f g a b x y k).toNat - 25344) % 6336 / 88 : Nat) : Int))) :
    (fetL f g a chapL b x y).take 8 = ws := by
  rw [fetL_len (by rw [chapL_len]; exact hE), ← List.map_take, List.take_range, hw]
  refine List.map_congr_left fun k hk => ?_
  have hk' : k < 8 := by simpa using hk
  rw [chapL_at (hq k hk')]
  rfl
end Go.Proofs.Ytcieggaihelacaa
