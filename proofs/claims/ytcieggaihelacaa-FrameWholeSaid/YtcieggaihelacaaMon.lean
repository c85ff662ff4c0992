/- The shared kit's functions on bytes, further: kept, a scene, a spot. -/
import Derived.Test.YtcieggaihelacaaMom
import Derived.Test.YtcieggaihelacaaMix
set_option linter.unusedSimpArgs false
set_option linter.unusedVariables false
namespace Go.Proofs.Ytcieggaihelacaa
open Go.RowKit
theorem grp0 {k : Int} (h : 0 ≤ k ∧ k ≤ 2) : 1 + 2 * k ∈ groupsS 0 := by
  rcases (show k = 0 ∨ k = 1 ∨ k = 2 by omega) with rfl | rfl | rfl <;> decide
theorem grp1 {k : Int} (h : 0 ≤ k ∧ k ≤ 11) : 1 + k ∈ groupsS 1 := by
  rcases (show k = 0 ∨ k = 1 ∨ k = 2 ∨ k = 3 ∨ k = 4 ∨ k = 5 ∨ k = 6 ∨ k = 7 ∨ k = 8 ∨ k = 9 ∨ k = 10 ∨ k = 11 by omega) with rfl | rfl | rfl | rfl | rfl | rfl | rfl | rfl | rfl | rfl | rfl | rfl <;> decide
/-- A spot that is one. -/
theorem spot_any (x y z : Int) (w : World) (hx0 : -9223372036854775808 ≤ x) (hx1 : x ≤ 9223372036854775807) (hy0 : -9223372036854775808 ≤ y) (hy1 : y ≤ 9223372036854775807) (hz0 : -9223372036854775808 ≤ z) (hz1 : z ≤ 9223372036854775807) :
    Calls Try.prog 36 #[.int .i64 x, .int .i64 y, .int .i64 z] w fun e w' => (∃ f g : Int, e = .returned (.agg #[.int .i64 f, .int .i64 g, .int .i64 (1 + z % 33)]) ∧ f = x % 2 ∧ (f = 0 ∨ f = 1) ∧ g ∈ groupsS f) ∧ Below w.heap.size w w' := by
  have hb := (((Below.refl w.heap.size w).alloc (Nat.le_refl _) (Obj.cells #[.int .i64 0, .int .i64 0, .int .i64 0] 23)))
  have h33 : 0 ≤ z % 33 ∧ z % 33 ≤ 32 := by omega
  have h12 : 0 ≤ y % 12 ∧ y % 12 ≤ 11 := by omega
  have h3 : 0 ≤ y % 3 ∧ y % 3 ≤ 2 := by omega
  rcases (show x % 2 = 0 ∨ x % 2 = 1 by omega) with h | h
  · rw [h]
    have H := Lib.hid h
    clear h
    go_enter Try.func36, Try.ntmps36
    go_wp2_with (go_at_call 21; refine (pick_any _ _ _ (by omega) (by omega) (by decide) (by decide)).mono ?_; (first | rw [H.out] | skip); rintro e w' ⟨rfl, rfl⟩)
    exact bodyPost_ret (v := .agg #[.int .i64 0, .int .i64 (1 + 2 * (y % 3)), .int .i64 (1 + z % 33)]) (by simp [results, Try.results36, go_sem]) rfl ⟨⟨0, 1 + 2 * (y % 3), rfl, rfl, .inl rfl, grp0 h3⟩, ((Below.refl w.heap.size w).alloc (Nat.le_refl _) _).alloc (by simp) _⟩
  · rw [h]
    have H := Lib.hid h
    clear h
    go_enter Try.func36, Try.ntmps36
    go_wp2_with (go_at_call 21; refine (pick_any _ _ _ (by omega) (by omega) (by decide) (by decide)).mono ?_; (first | rw [H.out] | skip); rintro e w' ⟨rfl, rfl⟩)
    exact bodyPost_ret (v := .agg #[.int .i64 1, .int .i64 (1 + y % 12), .int .i64 (1 + z % 33)]) (by simp [results, Try.results36, go_sem]) rfl ⟨⟨1, 1 + y % 12, rfl, rfl, .inr rfl, grp1 h12⟩, ((Below.refl w.heap.size w).alloc (Nat.le_refl _) _).alloc (by simp) _⟩
/-- A scene: a picture's bytes. -/
def byt (xs : List Int) : Prop := ∀ x ∈ xs, 0 ≤ x ∧ x ≤ 255
theorem byt.set {xs : List Int} (h : byt xs) {y : Int} (hy : 0 ≤ y ∧ y ≤ 255) (k : Nat) : byt (xs.set k y) := fun x hx => by
  rcases List.mem_or_eq_of_mem_set hx with h1 | rfl
  · exact h x h1
  · exact hy
theorem byt.at {xs : List Int} (h : byt xs) (k : Nat) : 0 ≤ xs[k]?.getD 0 ∧ xs[k]?.getD 0 ≤ 255 := by
  by_cases hk : k < xs.length
  · rw [List.getElem?_eq_getElem hk]; exact h _ (List.getElem_mem hk)
  · rw [List.getElem?_eq_none (by omega)]; decide
theorem pic_zero (w : World) (n : Nat) : Pic (w.alloc (.cells (madeCells #[Value.int .u8 0] n) 5)) w.heap.size (List.replicate n 0) [] := by
  unfold Pic
  rw [World.alloc_heap_new, List.append_nil, List.map_replicate, ← toList_madeCells_one]
theorem u8_bd (n : Int) : 0 ≤ IntKind.u8.wrap n ∧ IntKind.u8.wrap n ≤ 255 := by
  have e : IntKind.u8.wrap n = n % 256 := by simp [IntKind.wrap, IntKind.signed, IntKind.bits]
  rw [e]; omega
set_option maxHeartbeats 1000000 in
theorem scene_any (f a b : Int) (w : World) (hf : f = 0 ∨ f = 1) :
    Calls Try.prog 20 #[.int .i64 f, .int .i64 a, .int .i64 b] w fun e w' => (∃ (g n : Nat) (xs : List Int), e = .returned (.slice (some ⟨g, 0, none⟩) n n) ∧ (n : Int) = bytesS f ∧ xs.length = n ∧ byt xs ∧ w.heap.size ≤ g ∧ Pic w' g xs []) ∧ Below w.heap.size w w' := by
  obtain ⟨n, hn, hnb⟩ : ∃ n : Nat, bytesS f = n ∧ n ≤ 152064 := by rcases hf with rfl | rfl <;> exact ⟨_, rfl, by decide⟩
  have HN := Lib.hid hn
  clear hn
  have hmk := fun W => run_make_row' (P := Try.prog) 24 5 (.int .u8 0) 1 Try.underlying24 (by kernel_rfl) rfl .i64 .i64 n (by omega) (by omega) W
  have hz := pic_zero w n
  have hb := (Below.refl w.heap.size w).alloc (Nat.le_refl _) (.cells (madeCells #[Value.int .u8 0] n) 5)
  have HZ := Lib.hid hz
  have HB := Lib.hid hb
  clear hz hb
  go_enter Try.func20, Try.ntmps20
  go_wp2_with (go_at_call 73; refine (ksize_any _ _).mono ?_; rw [HN.out]; rintro e w' ⟨rfl, rfl⟩)
  go_loopw [8, 9] (fun x i wr => ∃ k : Nat, k ≤ n ∧ i = .int .i64 k ∧ (∃ z : Int, x = .int .u64 z) ∧ Below w.heap.size w wr ∧ ∃ ys : List Int, ys.length = n ∧ byt ys ∧ Pic wr w.heap.size ys []) (fun _ i _ => n - (intOf i).toNat)
  case atStart => exact ⟨0, Nat.zero_le _, rfl, ⟨_, rfl⟩, HB.out, _, by simp, fun x hx => by rw [List.eq_of_mem_replicate hx]; decide, HZ.out⟩
  case round =>
    obtain ⟨k, hk, rfl, ⟨z, rfl⟩, hb, ys, hys, hby, hp⟩ := hrel
    have HP := Lib.hid hp
    have HY := Lib.hid hys
    have HBY := Lib.hid hby
    have HBB := Lib.hid hb
    clear hp hys hby hb
    by_cases hlt : k < n
    · have hc := HP.out.cell (i := k) (by rw [HY.out]; exact hlt)
      have hf := HP.out.free k
      generalize ys[k]?.getD 0 = u at hc
      go_wp2
      go_roundw
      case rel => exact ⟨k + 1, by omega, by go_num, ⟨_, rfl⟩, HBB.out.setCell (Nat.le_refl _) _, _, by rw [List.length_set]; exact HY.out, HBY.out.set (u8_bd _) k, HP.out.set (by rw [HY.out]; exact hlt) _⟩
      case measure => simp [intOf]; omega
    · have e : k = n := by omega
      subst e
      go_wp2
      go_ret
      exact ⟨⟨_, k, ys, rfl, HN.out.symm, HY.out, HBY.out, Nat.le_refl _, HP.out⟩, HBB.out⟩

theorem Pic.tail {w : World} {g : Nat} {xs ys : List Int} {tl : List Value} (h : Pic w g xs (ys.map (Value.int .u8) ++ tl)) (hl : xs.length + ys.length ≤ 140737488351232) {c : Nat} (hc : ys.length ≤ c) : Rd .u8 w (.slice (some ⟨g, xs.length, none⟩) ys.length c) ys := by
  have h1 := (h.unsnoc.rd (by simpa using hl) (Nat.le_refl _)).sub xs.length ys.length c (by simp) hc
  rw [Nat.zero_add, List.drop_left, List.take_length] at h1
  exact h1
set_option maxRecDepth 100000 in
set_option maxHeartbeats 2000000 in
theorem keptBytes_true (g : Nat) (u : Value) (xs : List Int) (tl : List Value) (w : World) (hp : Pic w g xs (lent4 ++ tl)) (hu : Rd .u8 w u xs) (hn : xs.length ≤ 1000000) (hm : xs.length + (4 + tl.length) ≤ maxLen) :
    Calls Try.prog 29 #[.slice (some ⟨g, 0, none⟩) xs.length (xs.length + (4 + tl.length)), u] w fun e w' => e = .returned (.bool true) ∧ Below w.heap.size w w' := by
  obtain ⟨ua, uc, rfl⟩ := hu.form
  have hB0 : Pic w.drew g xs (lent4 ++ tl) ∧ Rd .u8 w.drew (.slice ua xs.length uc) xs := ⟨hp.drewN 1, hu.drewN 1⟩
  have HP := Lib.hid hB0
  have hbel := Below.refl w.heap.size w
  have hle : xs.length ≤ xs.length + (4 + tl.length) := by omega
  have hle2 : (xs.length : Int) + 4 ≤ ((xs.length + (4 + tl.length) : Nat) : Int) := by omega
  have ht4 : (4 : Int) ≤ 4 + (tl.length : Int) := by omega
  have HBL := Lib.hid hbel
  unfold maxLen at hm
  clear hp hu hB0 hbel
  go_enter Try.func29, Try.ntmps29
  go_wp2
  refine wp_region_mix (fun w' => Pic w' g xs (lent4 ++ tl) ∧ Rd .u8 w' (.slice ua xs.length uc) xs) [31, 32, 33] ((List.range 29).map (fun i => (i, true)) ++ [(29, false), (30, false), (31, false), (32, false), (33, false)]) (by kernel_rfl) (by kernel_rfl) rfl (by kernel_rfl) HP.out ?_
  have e1 : (List.range 29).map (fun i => (i, true)) ++ [(29, false), (30, false), (31, false), (32, false), (33, false)] = [(0, true), (1, true), (2, true), (3, true), (4, true), (5, true), (6, true), (7, true), (8, true), (9, true), (10, true), (11, true), (12, true), (13, true), (14, true), (15, true), (16, true), (17, true), (18, true), (19, true), (20, true), (21, true), (22, true), (23, true), (24, true), (25, true), (26, true), (27, true), (28, true), (29, false), (30, false), (31, false), (32, false), (33, false)] := rfl
  rw [e1]
  clear e1
  iterate 7 (refine mix_q rfl rfl (fun w' hB => by go_simp; rfl) ?_; simp only [Act.put, List.setIfInBounds_toArray, List.set_cons_succ, List.set_cons_zero])
  refine mix_q rfl rfl (fun w' hB => by have c := (hB.1.rd (by omega) hle).conv; go_simp; rfl) ?_; simp only [Act.put, List.setIfInBounds_toArray, List.set_cons_succ, List.set_cons_zero]
  refine mix_q rfl rfl (fun w' hB => by go_simp; rfl) ?_; simp only [Act.put, List.setIfInBounds_toArray, List.set_cons_succ, List.set_cons_zero]
  refine mix_q rfl rfl (fun w' hB => by have c := hB.2.conv; go_simp; rfl) ?_; simp only [Act.put, List.setIfInBounds_toArray, List.set_cons_succ, List.set_cons_zero]
  iterate 8 (refine mix_q rfl rfl (fun w' hB => by go_simp; rfl) ?_; simp only [Act.put, List.setIfInBounds_toArray, List.set_cons_succ, List.set_cons_zero])
  have w1 : IntKind.i64.wrap ((xs.length : Int) + 4) = (xs.length : Int) + 4 := w64 (by omega) (by omega)
  rw [w1]
  refine mix_q rfl rfl (fun w' hB => by go_simp; rfl) ?_; simp only [Act.put, List.setIfInBounds_toArray, List.set_cons_succ, List.set_cons_zero]
  iterate 7 (refine mix_q rfl rfl (fun w' hB => by go_simp; rfl) ?_; simp only [Act.put, List.setIfInBounds_toArray, List.set_cons_succ, List.set_cons_zero])
  refine mix_q rfl rfl (fun w' hB => by go_simp; rfl) ?_; simp only [Act.put, List.setIfInBounds_toArray, List.set_cons_succ, List.set_cons_zero]
  have e4 : ((xs.length : Int) + 4).toNat - xs.length = 4 := by omega
  refine mix_q (v := .slice (some ⟨g, xs.length, none⟩) 4 (4 + tl.length)) rfl rfl (fun w' hB => by go_simp; rw [if_pos (by omega), if_pos (by omega)]) ?_; simp only [Act.put, List.setIfInBounds_toArray, List.set_cons_succ, List.set_cons_zero]
  clear e4
  refine mix_q (v := .string (strOfNums l4)) rfl rfl (fun w' hB => by have c := (hB.1.tail (ys := l4) (c := 4 + tl.length) (by simp [l4]; omega) (by simp [l4])).conv; simp only [show l4.length = 4 from rfl] at c; go_simp) ?_; simp only [Act.put, List.setIfInBounds_toArray, List.set_cons_succ, List.set_cons_zero]
  refine mix_e rfl rfl ?_
  go_simp
  refine ⟨⟨HP.out.1.alloc _, HP.out.2.alloc _⟩, ?_⟩
  have c4 : (convert 24 9 (.slice (some ⟨w.heap.size, 0, none⟩) 4 4)).run Try.prog (w.alloc (.cells #[.int .u8 201, .int .u8 202, .int .u8 203, .int .u8 204] 5)).drew = .ok (.string (strOfNums l4)) (w.alloc (.cells #[.int .u8 201, .int .u8 202, .int .u8 203, .int .u8 204] 5)).drew := ((rd_l4 w).drewN 1).conv
  have hf := HP.out
  refine mix_e rfl rfl ?_
  go_simp
  refine ⟨⟨hf.1.alloc _, hf.2.alloc _⟩, ?_⟩
  clear hf
  iterate 2 (refine mix_e rfl rfl ?_; go_simp)
  refine mix_e rfl rfl ?_
  go_simp
  refine mix_nil ?_
  go_wp2
  go_ret
  exact ⟨rfl, below_drewN (HBL.out.alloc (Nat.le_refl _) _) 1⟩
end Go.Proofs.Ytcieggaihelacaa
