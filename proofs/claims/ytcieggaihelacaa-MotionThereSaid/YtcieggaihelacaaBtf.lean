/- The shared kit's functions on bytes: whether two are the same, written over, lent, kept, copied; a block of bytes that is wholly known. No condition but those in the statements. -/
import Derived.Test.YtcieggaihelacaaBte
import Derived.Laws.BytesArg
import Derived.Deep.OwnRows
import Derived.Laws.OwnMore
set_option linter.unusedSimpArgs false
set_option linter.unusedVariables false
namespace Go.Proofs.Ytcieggaihelacaa
open Go.RowKit
/-- A block of bytes: the numbers xs, then the cells tl. -/
def Pic (w : World) (g : Nat) (xs : List Int) (tl : List Value) : Prop := w.heap[g]? = some (.cells ((xs.map (Value.int .u8)) ++ tl).toArray 5 (0, 0))
section
variable {w w' : World} {g : Nat} {xs : List Int} {tl : List Value}
theorem Pic.lt (h : Pic w g xs tl) : g < w.heap.size := blk_lt h
theorem Pic.kept {row : Option Nat} (h : Pic w g xs tl) (hg : w.grownBy w' row) (hne : some g ≠ row) : Pic w' g xs tl := blk_kept h hg hne
theorem Pic.below (h : Pic w g xs tl) (hb : Below w.heap.size w w') : Pic w' g xs tl := blk_kept h (below_grown hb none) (by simp)
theorem Pic.drewN (h : Pic w g xs tl) (n : Nat) : Pic (w.drewN n) g xs tl := h
theorem Pic.alloc (h : Pic w g xs tl) (o : Obj) : Pic (w.alloc o) g xs tl := h.below ((Below.refl _ w).alloc (Nat.le_refl _) o)
theorem Pic.cell (h : Pic w g xs tl) {i : Nat} (hi : i < xs.length) : w.cell? ⟨g, i, none⟩ = some (.int .u8 (xs[i]?.getD 0)) := by
  rw [blk_cell h, List.getElem?_toArray, List.getElem?_append_left (by simpa using hi), List.getElem?_map]
  simp [hi]
theorem Pic.free (h : Pic w g xs tl) (i : Nat) : w.frozen? ⟨g, i, none⟩ = false := blk_free h i
theorem Pic.set (h : Pic w g xs tl) {i : Nat} (hi : i < xs.length) (y : Int) : Pic (w.setCell ⟨g, i, none⟩ (.int .u8 y)) g (xs.set i y) tl := by
  have := blk_set h i (.int .u8 y)
  unfold Pic
  rw [this, List.setIfInBounds_toArray, List.set_append_left i _ (by simpa using hi), List.map_set]
theorem Pic.rd (h : Pic w g xs tl) (hl : xs.length ≤ 140737488351232) {c : Nat} (hc : xs.length ≤ c) : Rd .u8 w (.slice (some ⟨g, 0, none⟩) xs.length c) xs :=
  Or.inr ⟨g, 0, c, rfl, h.lt, hc, hl, fun i hi => by rw [Nat.zero_add]; exact h.cell hi⟩
theorem Pic.of_owns {base : Nat} {v : Value} (h : w.ownsRow base 5 1 v xs.length (xs.map (Value.int .u8))) :
    (v = .slice none 0 0 ∧ xs = []) ∨ ∃ g tl, v = .slice (some ⟨g, 0, none⟩) xs.length (xs.length + tl.length) ∧ base ≤ g ∧ Pic w g xs tl ∧ xs.length + tl.length ≤ maxLen := by
  rcases owns_blk h with ⟨rfl, h1, h2⟩ | ⟨g, cap, cur, rfl, hb, hh, hnc, hcm, hs, ht⟩
  · exact .inl ⟨rfl, List.eq_nil_of_length_eq_zero h1⟩
  · have e : cur.toList = xs.map (Value.int .u8) ++ cur.toList.drop xs.length := by rw [← ht, List.take_append_drop]
    have hcs : cur.toList.length = cap := by simpa using hs
    have e2 : xs.length + (cur.toList.drop xs.length).length = cap := by rw [List.length_drop]; omega
    refine .inr ⟨g, cur.toList.drop xs.length, by rw [e2], hb, ?_, by omega⟩
    unfold Pic
    rw [← e, hh]
theorem Pic.owns (h : Pic w g xs tl) {base : Nat} (hb : base ≤ g) (hm : xs.length + tl.length ≤ maxLen) : w.ownsRow base 5 1 (.slice (some ⟨g, 0, none⟩) xs.length (xs.length + tl.length)) xs.length (xs.map (Value.int .u8)) :=
  ⟨by simp, .inr ⟨g, xs.length + tl.length, _, rfl, hb, h, by omega, hm, by simp, by simp⟩⟩
end
theorem Rd.conv {w : World} {v : Value} {xs : List Int} (h : Rd .u8 w v xs) : (convert 24 9 v).run Try.prog w = .ok (.string (strOfNums xs)) w := by
  rcases h with ⟨rfl, rfl⟩ | ⟨b, off, cap, rfl, _, _, _, hc⟩
  · rw [run_convert_bytes_nil w 24 5 Try.underlying24 Try.underlying5 0 0 9 Try.underlying9]; rfl
  · exact run_convert_bytes_arg w 24 5 Try.underlying24 Try.underlying5 b off xs.length cap xs rfl (fun i hi => by rw [hc i hi]; rfl) 9 Try.underlying9

theorem sameBytes_true (v u : Value) (xs : List Int) (w : World) (h : Rd .u8 w v xs) (g : Rd .u8 w u xs) :
    Calls Try.prog 25 #[v, u] w fun e w' => e = .returned (.bool true) ∧ w = w' := by
  have e1 := h.conv
  have e2 := g.conv
  clear h g
  go_enter Try.func25, Try.ntmps25
  go_wp2
  go_ret
  exact ⟨by simp, rfl⟩
theorem overBytes_any (v : Value) (base : Nat) (xs : List Int) (w : World) (h : w.ownsRow base 5 1 v xs.length (xs.map (Value.int .u8))) (hn : xs.length ≤ 140737488351232) :
    Calls Try.prog 28 #[v] w fun e w' => (∃ r, e = .returned r) ∧ w.grownBy w' v.ownBlock := by
  rcases Pic.of_owns h with ⟨rfl, rfl⟩ | ⟨g, tl, rfl, hb, hp, hm⟩
  · go_enter Try.func28, Try.ntmps28
    go_wp2
    go_loop [2] (fun i => i = .int .i64 0) (fun _ => 0)
    case atStart => rfl
    case round =>
      subst hrel
      go_wp2
      go_end0
      exact ⟨⟨_, rfl⟩, World.grownBy.refl _ _⟩
  · clear h
    obtain ⟨n, hnl⟩ : ∃ n, xs.length = n := ⟨_, rfl⟩
    have HN := Lib.hid hnl
    rw [hnl] at hn ⊢
    clear hnl
    go_enter Try.func28, Try.ntmps28
    go_wp2
    go_loopw [2] (fun i wr => ∃ k : Nat, k ≤ n ∧ i = .int .i64 k ∧ w.grownBy wr (some g) ∧ ∃ ys : List Int, ys.length = n ∧ Pic wr g ys tl) (fun i _ => n - (intOf i).toNat)
    case atStart => exact ⟨0, Nat.zero_le _, rfl, World.grownBy.refl _ _, xs, HN.out, hp⟩
    case round =>
      obtain ⟨k, hk, rfl, hg, ys, hys, hpp⟩ := hrel
      have HP := Lib.hid hpp
      have HY := Lib.hid hys
      clear hpp hys hp
      by_cases hlt : k < n
      · have hc := HP.out.cell (i := k) (by rw [HY.out]; exact hlt)
        have hf := HP.out.free k
        generalize ys[k]?.getD 0 = u at hc
        go_wp2
        go_roundw
        case rel => exact ⟨k + 1, by omega, by go_num, hg.trans (grown_set wr ⟨g, k, none⟩ _), _, by rw [List.length_set]; exact HY.out, HP.out.set (by rw [HY.out]; exact hlt) _⟩
        case measure => simp [intOf]; omega
      · go_wp2
        go_end0
        exact ⟨⟨_, rfl⟩, hg⟩

def l4 : List Int := [201, 202, 203, 204]
def lent4 : List Value := [.int .u8 201, .int .u8 202, .int .u8 203, .int .u8 204]
theorem l4_map : l4.map (Value.int .u8) = lent4 := rfl
theorem Pic.snoc {w : World} {g : Nat} {xs ys : List Int} {tl : List Value} (h : Pic w g (xs ++ ys) tl) : Pic w g xs (ys.map (Value.int .u8) ++ tl) := by
  unfold Pic at *
  rw [h, List.map_append, List.append_assoc]
theorem Pic.unsnoc {w : World} {g : Nat} {xs ys : List Int} {tl : List Value} (h : Pic w g xs (ys.map (Value.int .u8) ++ tl)) : Pic w g (xs ++ ys) tl := by
  unfold Pic at *
  rw [h, List.map_append, List.append_assoc]
theorem copyBytes_any (v : Value) (xs : List Int) (w : World) (h : Rd .u8 w v xs) (hl : xs.length ≤ 1000000) :
    Calls Try.prog 64 #[v] w fun e w' => (∃ r, e = .returned r ∧ w'.ownsRow w.heap.size 5 1 r xs.length (xs.map (Value.int .u8))) ∧ Below w.heap.size w w' := by
  have hb := (Below.refl w.heap.size w).alloc (Nat.le_refl _) (Obj.cells #[] 5)
  have HB := Lib.hid hb
  clear hb
  go_enter Try.func64, Try.ntmps64
  go_wp2_with (at_builtin; refine wp_appN (base := w.heap.size) Try.elByte rfl rfl (owns_new 5 [] (by decide)) (h.alloc _) (by simp; omega) (by simp) ?_; simp only [List.length_nil, Nat.zero_add, List.nil_append]; intro a1 c1 w1 hown1 hgrow1 _)
  go_ret
  exact ⟨⟨_, rfl, hown1⟩, HB.out.grown hgrow1 (by simp) (fun j e => by cases e; exact Nat.le_refl _)⟩
theorem copyInts_any (v : Value) (xs : List Int) (w : World) (h : Rd .i64 w v xs) (hl : xs.length ≤ 1000000) :
    Calls Try.prog 57 #[v] w fun e w' => (∃ r, e = .returned r ∧ w'.ownsRow w.heap.size 3 1 r xs.length (xs.map (Value.int .i64))) ∧ Below w.heap.size w w' := by
  have hb := (Below.refl w.heap.size w).alloc (Nat.le_refl _) (Obj.cells #[] 3)
  have HB := Lib.hid hb
  clear hb
  go_enter Try.func57, Try.ntmps57
  go_wp2_with (at_builtin; refine wp_appN (base := w.heap.size) Try.elInt rfl rfl (owns_new 3 [] (by decide)) (h.alloc _) (by simp; omega) (by simp) ?_; simp only [List.length_nil, Nat.zero_add, List.nil_append]; intro a1 c1 w1 hown1 hgrow1 _)
  go_ret
  exact ⟨⟨_, rfl, hown1⟩, HB.out.grown hgrow1 (by simp) (fun j e => by cases e; exact Nat.le_refl _)⟩
theorem rd_l4 (w : World) : Rd .u8 (w.alloc (.cells #[.int .u8 201, .int .u8 202, .int .u8 203, .int .u8 204] 5)) (.slice (some ⟨w.heap.size, 0, none⟩) 4 4) l4 :=
  Rd.of_owns (xs := l4) (k := .u8) (owns_new 5 lent4 (by decide)) (by decide)
theorem lent_made {w : World} {base c : Nat} {a : Option Addr} {xs : List Int} (h : w.ownsRow base 5 1 (.slice a (xs.length + l4.length) c) (xs.length + l4.length) (xs.map (Value.int .u8) ++ l4.map (Value.int .u8))) :
    ∃ g tl, a = some ⟨g, 0, none⟩ ∧ c = xs.length + (4 + tl.length) ∧ base ≤ g ∧ Pic w g xs (lent4 ++ tl) ∧ xs.length + (4 + tl.length) ≤ maxLen := by
  have e4 : l4.length = 4 := rfl
  rw [← List.map_append, show xs.length + l4.length = (xs ++ l4).length by simp] at h
  rcases Pic.of_owns h with ⟨e, e2⟩ | ⟨g, tl, e, hb, hp, hm⟩
  · have := congrArg List.length e2
    simp [e4] at this
  · injection e with e1 e2 e3
    rw [List.length_append, e4] at e3 hm
    exact ⟨g, tl, e1, by omega, hb, hp.snoc, by omega⟩
theorem lentBytes_any (v : Value) (xs : List Int) (w : World) (h : Rd .u8 w v xs) (hl : xs.length ≤ 1000000) :
    Calls Try.prog 22 #[v] w fun e w' => (∃ g tl, e = .returned (.slice (some ⟨g, 0, none⟩) xs.length (xs.length + (4 + tl.length))) ∧ w.heap.size ≤ g ∧ Pic w' g xs (lent4 ++ tl) ∧ xs.length + (4 + tl.length) ≤ maxLen) ∧ Below w.heap.size w w' := by
  obtain ⟨va, vc, rfl⟩ := h.form
  have hb := (Below.refl w.heap.size w).alloc (Nat.le_refl _) (Obj.cells #[] 5)
  have HB := Lib.hid hb
  clear hb
  go_enter Try.func22, Try.ntmps22
  go_wp2_with (first
    | (at_builtin; refine wp_appN (base := w.heap.size) Try.elByte rfl rfl (hown1.alloc _) (rd_l4 _) (by simp [l4]; omega) (by simp; omega) ?_; intro a2 c2 w2 hown2 hgrow2 _; obtain ⟨g, tl, rfl, rfl, hg, hp, hm⟩ := lent_made hown2; have hle : xs.length ≤ xs.length + (4 + tl.length) := by omega)
    | (at_builtin; refine wp_appN (base := w.heap.size) Try.elByte rfl rfl (owns_new 5 [] (by decide)) (h.alloc _) (by simp; omega) (by simp) ?_; simp only [List.length_nil, Nat.zero_add, List.nil_append]; intro a1 c1 w1 hown1 hgrow1 _; have hs1 := hgrow1.size; simp only [World.size_alloc] at hs1))
  have h1 := HB.out.grown hgrow1 (by simp) (fun j e => by cases e; exact Nat.le_refl _)
  have h2 := (h1.alloc (by omega) _).grown hgrow2 (by simp; omega) (fun j e => (hown1.lt j e).1)
  go_ret
  exact ⟨⟨g, tl, rfl, hg, hp, hm⟩, h2⟩
end Go.Proofs.Ytcieggaihelacaa
/- The shared kit's functions on bytes, further: kept, a scene, a spot. -/
set_option linter.unusedSimpArgs false
set_option linter.unusedVariables false
namespace Go.Proofs.Ytcieggaihelacaa
open Go.RowKit
theorem grp0 {k : Int} (h : 0 ≤ k ∧ k ≤ 2) : 1 + 2 * k ∈ groupsS 0 := by
  rcases (show k = 0 ∨ k = 1 ∨ k = 2 by omega) with rfl | rfl | rfl <;> decide
theorem grp1 {k : Int} (h : 0 ≤ k ∧ k ≤ 11) : 1 + k ∈ groupsS 1 := by
  rcases (show k = 0 ∨ k = 1 ∨ k = 2 ∨ k = 3 ∨ k = 4 ∨ k = 5 ∨ k = 6 ∨ k = 7 ∨ k = 8 ∨ k = 9 ∨ k = 10 ∨ k = 11 by omega) with rfl | rfl | rfl | rfl | rfl | rfl | rfl | rfl | rfl | rfl | rfl | rfl <;> decide
/-- A spot that is one. -/
theorem spot_any (x y z : Int) (w : World) (hx0 : -9223372036854775808 ≤ x) (hx1 : x ≤ 9223372036854775807) (hy0 : -9223372036854775808 ≤ y) (hy1 : y ≤ 9223372036854775807) (hz0 : -9223372036854775808 ≤ z) (hz1 : z ≤ 9223372036854775807) :
    Calls Try.prog 36 #[.int .i64 x, .int .i64 y, .int .i64 z] w fun e w' => (∃ f g : Int, e = .returned (.agg #[.int .i64 f, .int .i64 g, .int .i64 (1 + z % 33)]) ∧ f = x % 2 ∧ (f = 0 ∨ f = 1) ∧ g ∈ groupsS f) ∧ Below w.heap.size w w' := by
  have hb := (((Below.refl w.heap.size w).alloc (Nat.le_refl _) (Obj.cells #[.int .i64 0, .int .i64 0, .int .i64 0] 23)))
  have h33 : 0 ≤ z % 33 ∧ z % 33 ≤ 32 := by omega
  have h12 : 0 ≤ y % 12 ∧ y % 12 ≤ 11 := by omega
  have h3 : 0 ≤ y % 3 ∧ y % 3 ≤ 2 := by omega
  rcases (show x % 2 = 0 ∨ x % 2 = 1 by omega) with h | h
  · rw [h]
    have H := Lib.hid h
    clear h
    go_enter Try.func36, Try.ntmps36
    go_wp2_with (go_at_call 21; refine (pick_any _ _ _ (by omega) (by omega) (by decide) (by decide)).mono ?_; (first | rw [H.out] | skip); rintro e w' ⟨rfl, rfl⟩)
    exact bodyPost_ret (v := .agg #[.int .i64 0, .int .i64 (1 + 2 * (y % 3)), .int .i64 (1 + z % 33)]) (by simp [results, Try.results36, go_sem]) rfl ⟨⟨0, 1 + 2 * (y % 3), rfl, rfl, .inl rfl, grp0 h3⟩, ((Below.refl w.heap.size w).alloc (Nat.le_refl _) _).alloc (by simp) _⟩
  · rw [h]
    have H := Lib.hid h
    clear h
    go_enter Try.func36, Try.ntmps36
    go_wp2_with (go_at_call 21; refine (pick_any _ _ _ (by omega) (by omega) (by decide) (by decide)).mono ?_; (first | rw [H.out] | skip); rintro e w' ⟨rfl, rfl⟩)
    exact bodyPost_ret (v := .agg #[.int .i64 1, .int .i64 (1 + y % 12), .int .i64 (1 + z % 33)]) (by simp [results, Try.results36, go_sem]) rfl ⟨⟨1, 1 + y % 12, rfl, rfl, .inr rfl, grp1 h12⟩, ((Below.refl w.heap.size w).alloc (Nat.le_refl _) _).alloc (by simp) _⟩
/-- A scene: a picture's bytes. -/
def byt (xs : List Int) : Prop := ∀ x ∈ xs, 0 ≤ x ∧ x ≤ 255
theorem byt.set {xs : List Int} (h : byt xs) {y : Int} (hy : 0 ≤ y ∧ y ≤ 255) (k : Nat) : byt (xs.set k y) := fun x hx => by
  rcases List.mem_or_eq_of_mem_set hx with h1 | rfl
  · exact h x h1
  · exact hy
theorem byt.at {xs : List Int} (h : byt xs) (k : Nat) : 0 ≤ xs[k]?.getD 0 ∧ xs[k]?.getD 0 ≤ 255 := by
  by_cases hk : k < xs.length
  · rw [List.getElem?_eq_getElem hk]; exact h _ (List.getElem_mem hk)
  · rw [List.getElem?_eq_none (by omega)]; decide
theorem pic_zero (w : World) (n : Nat) : Pic (w.alloc (.cells (madeCells #[Value.int .u8 0] n) 5)) w.heap.size (List.replicate n 0) [] := by
  unfold Pic
  rw [World.alloc_heap_new, List.append_nil, List.map_replicate, ← toList_madeCells_one]
theorem u8_bd (n : Int) : 0 ≤ IntKind.u8.wrap n ∧ IntKind.u8.wrap n ≤ 255 := by
  have e : IntKind.u8.wrap n = n % 256 := by simp [IntKind.wrap, IntKind.signed, IntKind.bits]
  rw [e]; omega
set_option maxHeartbeats 1000000 in
theorem scene_any (f a b : Int) (w : World) (hf : f = 0 ∨ f = 1) :
    Calls Try.prog 20 #[.int .i64 f, .int .i64 a, .int .i64 b] w fun e w' => (∃ (g n : Nat) (xs : List Int), e = .returned (.slice (some ⟨g, 0, none⟩) n n) ∧ (n : Int) = bytesS f ∧ xs.length = n ∧ byt xs ∧ w.heap.size ≤ g ∧ Pic w' g xs []) ∧ Below w.heap.size w w' := by
  obtain ⟨n, hn, hnb⟩ : ∃ n : Nat, bytesS f = n ∧ n ≤ 152064 := by rcases hf with rfl | rfl <;> exact ⟨_, rfl, by decide⟩
  have HN := Lib.hid hn
  clear hn
  have hmk := fun W => run_make_row' (P := Try.prog) 24 5 (.int .u8 0) 1 Try.underlying24 (by kernel_rfl) rfl .i64 .i64 n (by omega) (by omega) W
  have hz := pic_zero w n
  have hb := (Below.refl w.heap.size w).alloc (Nat.le_refl _) (.cells (madeCells #[Value.int .u8 0] n) 5)
  have HZ := Lib.hid hz
  have HB := Lib.hid hb
  clear hz hb
  go_enter Try.func20, Try.ntmps20
  go_wp2_with (go_at_call 73; refine (ksize_any _ _).mono ?_; rw [HN.out]; rintro e w' ⟨rfl, rfl⟩)
  go_loopw [8, 9] (fun x i wr => ∃ k : Nat, k ≤ n ∧ i = .int .i64 k ∧ (∃ z : Int, x = .int .u64 z) ∧ Below w.heap.size w wr ∧ ∃ ys : List Int, ys.length = n ∧ byt ys ∧ Pic wr w.heap.size ys []) (fun _ i _ => n - (intOf i).toNat)
  case atStart => exact ⟨0, Nat.zero_le _, rfl, ⟨_, rfl⟩, HB.out, _, by simp, fun x hx => by rw [List.eq_of_mem_replicate hx]; decide, HZ.out⟩
  case round =>
    obtain ⟨k, hk, rfl, ⟨z, rfl⟩, hb, ys, hys, hby, hp⟩ := hrel
    have HP := Lib.hid hp
    have HY := Lib.hid hys
    have HBY := Lib.hid hby
    have HBB := Lib.hid hb
    clear hp hys hby hb
    by_cases hlt : k < n
    · have hc := HP.out.cell (i := k) (by rw [HY.out]; exact hlt)
      have hf := HP.out.free k
      generalize ys[k]?.getD 0 = u at hc
      go_wp2
      go_roundw
      case rel => exact ⟨k + 1, by omega, by go_num, ⟨_, rfl⟩, HBB.out.setCell (Nat.le_refl _) _, _, by rw [List.length_set]; exact HY.out, HBY.out.set (u8_bd _) k, HP.out.set (by rw [HY.out]; exact hlt) _⟩
      case measure => simp [intOf]; omega
    · have e : k = n := by omega
      subst e
      go_wp2
      go_ret
      exact ⟨⟨_, k, ys, rfl, HN.out.symm, HY.out, HBY.out, Nat.le_refl _, HP.out⟩, HBB.out⟩

theorem Pic.tail {w : World} {g : Nat} {xs ys : List Int} {tl : List Value} (h : Pic w g xs (ys.map (Value.int .u8) ++ tl)) (hl : xs.length + ys.length ≤ 140737488351232) {c : Nat} (hc : ys.length ≤ c) : Rd .u8 w (.slice (some ⟨g, xs.length, none⟩) ys.length c) ys := by
  have h1 := (h.unsnoc.rd (by simpa using hl) (Nat.le_refl _)).sub xs.length ys.length c (by simp) hc
  rw [Nat.zero_add, List.drop_left, List.take_length] at h1
  exact h1
set_option maxRecDepth 100000 in
set_option maxHeartbeats 2000000 in
theorem keptBytes_true (g : Nat) (u : Value) (xs : List Int) (tl : List Value) (w : World) (hp : Pic w g xs (lent4 ++ tl)) (hu : Rd .u8 w u xs) (hn : xs.length ≤ 1000000) (hm : xs.length + (4 + tl.length) ≤ maxLen) :
    Calls Try.prog 29 #[.slice (some ⟨g, 0, none⟩) xs.length (xs.length + (4 + tl.length)), u] w fun e w' => e = .returned (.bool true) ∧ Below w.heap.size w w' := by
  obtain ⟨ua, uc, rfl⟩ := hu.form
  have hB0 : Pic w.drew g xs (lent4 ++ tl) ∧ Rd .u8 w.drew (.slice ua xs.length uc) xs := ⟨hp.drewN 1, hu.drewN 1⟩
  have HP := Lib.hid hB0
  have hbel := Below.refl w.heap.size w
  have hle : xs.length ≤ xs.length + (4 + tl.length) := by omega
  have hle2 : (xs.length : Int) + 4 ≤ ((xs.length + (4 + tl.length) : Nat) : Int) := by omega
  have ht4 : (4 : Int) ≤ 4 + (tl.length : Int) := by omega
  have HBL := Lib.hid hbel
  unfold maxLen at hm
  clear hp hu hB0 hbel
  go_enter Try.func29, Try.ntmps29
  go_wp2
  refine wp_region_mix (fun w' => Pic w' g xs (lent4 ++ tl) ∧ Rd .u8 w' (.slice ua xs.length uc) xs) [31, 32, 33] ((List.range 29).map (fun i => (i, true)) ++ [(29, false), (30, false), (31, false), (32, false), (33, false)]) (by kernel_rfl) (by kernel_rfl) rfl (by kernel_rfl) HP.out ?_
  have e1 : (List.range 29).map (fun i => (i, true)) ++ [(29, false), (30, false), (31, false), (32, false), (33, false)] = [(0, true), (1, true), (2, true), (3, true), (4, true), (5, true), (6, true), (7, true), (8, true), (9, true), (10, true), (11, true), (12, true), (13, true), (14, true), (15, true), (16, true), (17, true), (18, true), (19, true), (20, true), (21, true), (22, true), (23, true), (24, true), (25, true), (26, true), (27, true), (28, true), (29, false), (30, false), (31, false), (32, false), (33, false)] := rfl
  rw [e1]
  clear e1
  iterate 7 (refine mix_q rfl rfl (fun w' hB => by go_simp; rfl) ?_; simp only [Act.put, List.setIfInBounds_toArray, List.set_cons_succ, List.set_cons_zero])
  refine mix_q rfl rfl (fun w' hB => by have c := (hB.1.rd (by omega) hle).conv; go_simp; rfl) ?_; simp only [Act.put, List.setIfInBounds_toArray, List.set_cons_succ, List.set_cons_zero]
  refine mix_q rfl rfl (fun w' hB => by go_simp; rfl) ?_; simp only [Act.put, List.setIfInBounds_toArray, List.set_cons_succ, List.set_cons_zero]
  refine mix_q rfl rfl (fun w' hB => by have c := hB.2.conv; go_simp; rfl) ?_; simp only [Act.put, List.setIfInBounds_toArray, List.set_cons_succ, List.set_cons_zero]
  iterate 8 (refine mix_q rfl rfl (fun w' hB => by go_simp; rfl) ?_; simp only [Act.put, List.setIfInBounds_toArray, List.set_cons_succ, List.set_cons_zero])
  have w1 : IntKind.i64.wrap ((xs.length : Int) + 4) = (xs.length : Int) + 4 := w64 (by omega) (by omega)
  rw [w1]
  refine mix_q rfl rfl (fun w' hB => by go_simp; rfl) ?_; simp only [Act.put, List.setIfInBounds_toArray, List.set_cons_succ, List.set_cons_zero]
  iterate 7 (refine mix_q rfl rfl (fun w' hB => by go_simp; rfl) ?_; simp only [Act.put, List.setIfInBounds_toArray, List.set_cons_succ, List.set_cons_zero])
  refine mix_q rfl rfl (fun w' hB => by go_simp; rfl) ?_; simp only [Act.put, List.setIfInBounds_toArray, List.set_cons_succ, List.set_cons_zero]
  have e4 : ((xs.length : Int) + 4).toNat - xs.length = 4 := by omega
  refine mix_q (v := .slice (some ⟨g, xs.length, none⟩) 4 (4 + tl.length)) rfl rfl (fun w' hB => by go_simp; rw [if_pos (by omega), if_pos (by omega)]) ?_; simp only [Act.put, List.setIfInBounds_toArray, List.set_cons_succ, List.set_cons_zero]
  clear e4
  refine mix_q (v := .string (strOfNums l4)) rfl rfl (fun w' hB => by have c := (hB.1.tail (ys := l4) (c := 4 + tl.length) (by simp [l4]; omega) (by simp [l4])).conv; simp only [show l4.length = 4 from rfl] at c; go_simp) ?_; simp only [Act.put, List.setIfInBounds_toArray, List.set_cons_succ, List.set_cons_zero]
  refine mix_e rfl rfl ?_
  go_simp
  refine ⟨⟨HP.out.1.alloc _, HP.out.2.alloc _⟩, ?_⟩
  have c4 : (convert 24 9 (.slice (some ⟨w.heap.size, 0, none⟩) 4 4)).run Try.prog (w.alloc (.cells #[.int .u8 201, .int .u8 202, .int .u8 203, .int .u8 204] 5)).drew = .ok (.string (strOfNums l4)) (w.alloc (.cells #[.int .u8 201, .int .u8 202, .int .u8 203, .int .u8 204] 5)).drew := ((rd_l4 w).drewN 1).conv
  have hf := HP.out
  refine mix_e rfl rfl ?_
  go_simp
  refine ⟨⟨hf.1.alloc _, hf.2.alloc _⟩, ?_⟩
  clear hf
  iterate 2 (refine mix_e rfl rfl ?_; go_simp)
  refine mix_e rfl rfl ?_
  go_simp
  refine mix_nil ?_
  go_wp2
  go_ret
  exact ⟨rfl, below_drewN (HBL.out.alloc (Nat.le_refl _) _) 1⟩
end Go.Proofs.Ytcieggaihelacaa
/- Layer 14's statements' own helpers: the chapter's picture, its first row, some of its examples. -/
set_option linter.unusedSimpArgs false
set_option linter.unusedVariables false
namespace Go.Proofs.Ytcieggaihelacaa
open Go.RowKit
def chapL : List Int := (List.range 38016).map (fun i : Nat => if i < 25344 then ((i % 176 : Nat) : Int) else (((i - 25344) % 6336 / 88 : Nat) : Int))
theorem chapL_len : chapL.length = 38016 := by unfold chapL; rw [List.length_map, List.length_range]
theorem chapL_at {i : Nat} (h : i < 38016) : chapL[i]? = some (if i < 25344 then ((i % 176 : Nat) : Int) else (((i - 25344) % 6336 / 88 : Nat) : Int)) := by
  unfold chapL; rw [List.getElem?_map, List.getElem?_range h]; rfl
theorem chap_step {n : Nat} {e : Int} (h : n < 38016) (he : (if n < 25344 then ((n % 176 : Nat) : Int) else (((n - 25344) % 6336 / 88 : Nat) : Int)) = e) : chapL.take (n + 1) = chapL.take n ++ [e] := by
  rw [List.take_add_one, chapL_at h, he]; rfl
theorem qcif14_any (g a : Int) (w : World) :
    Calls Try.prog 34 #[.int .i64 g, .int .i64 a] w fun e w' => e = .returned (.agg #[.int .i64 0, .int .i64 g, .int .i64 a]) ∧ Below w.heap.size w w' := by
  go_enter Try.func34, Try.ntmps34
  go_wp2
  exact bodyPost_ret (v := .agg #[.int .i64 0, .int .i64 g, .int .i64 a]) (by simp [results, Try.results34, go_sem]) rfl ⟨rfl, (Below.refl w.heap.size w).alloc (Nat.le_refl _) _⟩
theorem u8_id {n : Int} (h : 0 ≤ n) (g : n ≤ 255) : IntKind.u8.wrap n = n := by
  have e : IntKind.u8.wrap n = n % 256 := by simp [IntKind.wrap, IntKind.signed, IntKind.bits]
  omega
set_option maxRecDepth 100000 in
set_option maxHeartbeats 2000000 in
theorem chapter_any (w : World) :
    Calls Try.prog 33 #[] w fun e w' => (∃ r, e = .returned r ∧ w'.ownsRow w.heap.size 5 1 r 38016 (chapL.map (Value.int .u8))) ∧ Below w.heap.size w w' := by
  have hl := chapL_len
  obtain ⟨L, hL⟩ : ∃ L, chapL = L := ⟨_, rfl⟩
  have HL := Lib.hid hl
  have HCL := Lib.hid hL
  have hst : ∀ (n : Nat) (e : Int), n < 38016 → (if n < 25344 then ((n % 176 : Nat) : Int) else (((n - 25344) % 6336 / 88 : Nat) : Int)) = e → (L.take (n + 1)).map (Value.int .u8) = (L.take n).map (Value.int .u8) ++ [.int .u8 e] := by
    intro n e h he
    rw [← hL, chap_step h he, List.map_append]; rfl
  have HST := Lib.hid hst
  have hfin : L.take 38016 = L := by rw [← hL]; exact List.take_of_length_le (by omega)
  have HF := Lib.hid hfin
  rw [hL]
  clear hl hL hst hfin
  go_enter Try.func33, Try.ntmps33
  go_wp2
  go_loopw [1, 2, 3] (fun v i _ wr => ∃ y : Nat, y ≤ 144 ∧ i = .int .i64 y ∧ wr.ownsRow w.heap.size 5 1 v (176 * y) ((L.take (176 * y)).map (Value.int .u8)) ∧ Below w.heap.size w wr) (fun _ i _ _ => 200 - (intOf i).toNat)
  case atStart => exact ⟨0, by omega, rfl, World.ownsRow_nil _ _ _ _, Below.refl _ _⟩
  case round =>
    obtain ⟨y, hy, rfl, hown, hb⟩ := hrel
    by_cases hlt : y < 144
    · have hlt' : (y : Int) < 144 := by omega
      go_wp2
      go_loopw [1, 3] (fun v i wr => ∃ x : Nat, x ≤ 176 ∧ i = .int .i64 x ∧ wr.ownsRow w.heap.size 5 1 v (176 * y + x) ((L.take (176 * y + x)).map (Value.int .u8)) ∧ Below w.heap.size w wr) (fun _ i _ => 200 - (intOf i).toNat)
      case atStart => exact ⟨0, by omega, rfl, hown, hb⟩
      case round =>
        obtain ⟨x, hx, rfl, hown2, hb2⟩ := hrel
        by_cases hlt2 : x < 176
        · have hlt2' : (x : Int) < 176 := by omega
          have hs := HST.out (176 * y + x) (x : Int) (by omega) (by rw [if_pos (by omega)]; omega)
          have HS := Lib.hid hs
          have HBE := Lib.hid hb2
          have hsz := hb2.size
          clear hs hb2 hown hb
          go_wp2_with (at_builtin; refine wp_app1 Try.elByte rfl rfl (hown2.alloc _) (cell_alloc1 _ _ _) rfl (by omega) (by simp; omega) ?_; intro g1 c1 w1 hown3 hgrow3 _)
          go_roundw
          case rel =>
            refine ⟨x + 1, by omega, by go_num, ?_, ?_⟩
            · rw [← Nat.add_assoc, HS.out]
              exact hown3
            · exact (HBE.out.alloc HBE.out.size _).grown hgrow3 (by simp; omega) (fun j e => (hown2.lt j e).1)
          case measure => simp [intOf]; omega
        · have e : x = 176 := by omega
          subst e
          go_wp2
          go_roundw
          case rel => exact ⟨y + 1, by omega, by go_num, hown2, hb2⟩
          case measure => simp [intOf]; omega
    · have e : y = 144 := by omega
      subst e
      go_wp2
      rw [show ((144 : Nat) : Int) = 144 from rfl]
      go_loopw [1, 4, 5, 6] (fun v i _ _ wr => ∃ c : Nat, c ≤ 2 ∧ i = .int .i64 c ∧ wr.ownsRow w.heap.size 5 1 v (25344 + 6336 * c) ((L.take (25344 + 6336 * c)).map (Value.int .u8)) ∧ Below w.heap.size w wr) (fun _ i _ _ _ => 200 - (intOf i).toNat)
      case atStart => exact ⟨0, by omega, rfl, hown, hb⟩
      case round =>
        obtain ⟨c, hc, rfl, hown1, hb1⟩ := hrel
        clear hown hb
        by_cases hltc : c < 2
        · have hltc' : (c : Int) < 2 := by omega
          go_wp2
          go_loopw [1, 5, 6] (fun v i _ wr => ∃ y : Nat, y ≤ 72 ∧ i = .int .i64 y ∧ wr.ownsRow w.heap.size 5 1 v (25344 + 6336 * c + 88 * y) ((L.take (25344 + 6336 * c + 88 * y)).map (Value.int .u8)) ∧ Below w.heap.size w wr) (fun _ i _ _ => 200 - (intOf i).toNat)
          case atStart => exact ⟨0, by omega, rfl, hown1, hb1⟩
          case round =>
            obtain ⟨y, hy, rfl, hown4, hb4⟩ := hrel
            clear hown1 hb1
            by_cases hlty : y < 72
            · have hlty' : (y : Int) < 72 := by omega
              go_wp2
              go_loopw [1, 6] (fun v i wr => ∃ x : Nat, x ≤ 88 ∧ i = .int .i64 x ∧ wr.ownsRow w.heap.size 5 1 v (25344 + 6336 * c + 88 * y + x) ((L.take (25344 + 6336 * c + 88 * y + x)).map (Value.int .u8)) ∧ Below w.heap.size w wr) (fun _ i _ => 200 - (intOf i).toNat)
              case atStart => exact ⟨0, by omega, rfl, hown4, hb4⟩
              case round =>
                obtain ⟨x, hx, rfl, hown2, hb2⟩ := hrel
                clear hown4 hb4
                by_cases hlt2 : x < 88
                · have hlt2' : (x : Int) < 88 := by omega
                  have hs := HST.out (25344 + 6336 * c + 88 * y + x) (y : Int) (by omega) (by rw [if_neg (by omega)]; omega)
                  have HS := Lib.hid hs
                  have HBE := Lib.hid hb2
                  have hsz := hb2.size
                  clear hs hb2
                  go_wp2_with (at_builtin; refine wp_app1 Try.elByte rfl rfl (hown2.alloc _) (cell_alloc1 _ _ _) rfl (by omega) (by simp; omega) ?_; intro g1 c1 w1 hown3 hgrow3 _)
                  go_roundw
                  case rel =>
                    refine ⟨x + 1, by omega, by go_num, ?_, ?_⟩
                    · rw [← Nat.add_assoc, HS.out]
                      exact hown3
                    · exact (HBE.out.alloc HBE.out.size _).grown hgrow3 (by simp; omega) (fun j e => (hown2.lt j e).1)
                  case measure => simp [intOf]; omega
                · have e : x = 88 := by omega
                  subst e
                  go_wp2
                  go_roundw
                  case rel => exact ⟨y + 1, by omega, by go_num, hown2, hb2⟩
                  case measure => simp [intOf]; omega
            · have e : y = 72 := by omega
              subst e
              go_wp2
              go_roundw
              case rel => exact ⟨c + 1, by omega, by go_num, hown4, hb4⟩
              case measure => simp [intOf]; omega
        · have e : c = 2 := by omega
          subst e
          go_wp2
          go_ret
          exact ⟨⟨_, rfl, by rw [show 25344 + 6336 * 2 = 38016 from rfl, HF.out] at hown1; exact hown1⟩, hb1⟩
end Go.Proofs.Ytcieggaihelacaa
/- Layer 14's statements' own helpers: the first eight samples that are fetched of the chapter's picture; some examples. -/
set_option linter.unusedSimpArgs false
set_option linter.unusedVariables false
namespace Go.Proofs.Ytcieggaihelacaa
open Go.RowKit
set_option maxRecDepth 100000 in
set_option maxHeartbeats 2000000 in
theorem row14_true (f g a b x y : Int) (v : Value) (L : List Int) (w : World) (hv : Rd .u8 w v L) (ha : -9223372036854775808 ≤ a) (ha2 : a ≤ 9223372036854775807) (hx0 : -9223372036854775808 ≤ x) (hx1 : x ≤ 9223372036854775807) (hy0 : -9223372036854775808 ≤ y) (hy1 : y ≤ 9223372036854775807)
    (hE : fetE f g a 38016 b x y = 0) (hL : (fetL f g a chapL b x y).take 8 = L) :
    Calls Try.prog 35 #[.agg #[.int .i64 f, .int .i64 g, .int .i64 a], .int .i64 b, .int .i64 x, .int .i64 y, v] w fun e w' => e = .returned (.bool true) ∧ Below w.heap.size w w' := by
  have h64 : (fetL f g a chapL b x y).length = 64 := by rw [fetL_len (by rw [chapL_len]; exact hE)]; simp
  obtain ⟨F, hF⟩ : ∃ F, fetL f g a chapL b x y = F := ⟨_, rfl⟩
  have hcl := chapL_len
  rw [hF] at h64 hL
  have HCL := Lib.hid hcl
  have HF := Lib.hid hF
  have H64 := Lib.hid h64
  have HL := Lib.hid hL
  have HE := Lib.hid hE
  have HV := Lib.hid hv
  have hb0 := (Below.refl w.heap.size w).alloc (Nat.le_refl _) (Obj.cells #[.int .i64 f, .int .i64 g, .int .i64 a] 23)
  have hn0 := World.alloc_heap_new w (Obj.cells #[.int .i64 f, .int .i64 g, .int .i64 a] 23)
  have HB0 := Lib.hid hb0
  have HN0 := Lib.hid hn0
  clear hcl hF h64 hL hE hb0 hn0 hv
  have hwf : ∀ f, Fence.wide.fn f := fun _ => trivial
  have hwd : Fence.wide.depth = none := rfl
  go_enter Try.func35, Try.ntmps35
  go_wp2
  refine wp_region_mix (fun w' => w'.heap[w.heap.size]? = some (.cells #[.int .i64 f, .int .i64 g, .int .i64 a] 23 (0, 0))) [10] [(1, true), (2, true), (3, true), (4, true), (0, false), (5, false), (6, true), (7, true), (8, true), (9, false), (10, false)] (by kernel_rfl) (by kernel_rfl) rfl (by kernel_rfl) HN0.out ?_
  refine mix_q rfl rfl (fun w' hB => by have c0 := blk_cell hB 0; have c1 := blk_cell hB 1; have c2 := blk_cell hB 2; simp only [List.getElem?_toArray, List.getElem?_cons_zero, List.getElem?_cons_succ] at c0 c1 c2; go_simp; rfl) ?_; simp only [Act.put, List.setIfInBounds_toArray, List.set_cons_succ, List.set_cons_zero]
  iterate 3 (refine mix_q rfl rfl (fun w' hB => by go_simp; rfl) ?_; simp only [Act.put, List.setIfInBounds_toArray, List.set_cons_succ, List.set_cons_zero])
  refine mix_e rfl rfl ?_
  go_simp
  refine (callsIn_wide.2 (chapter_any _)).mono ?_
  rintro e w2 ⟨⟨r, rfl, hown⟩, hb2⟩
  have hr : Rd .u8 w2 r chapL := Rd.of_owns (by rw [HCL.out]; exact hown) (by rw [HCL.out]; decide)
  have hn2 : w2.heap[w.heap.size]? = some (.cells #[.int .i64 f, .int .i64 g, .int .i64 a] 23 (0, 0)) := (hb2.block w.heap.size (by simp)).trans HN0.out
  have HB2 := Lib.hid (below_nxt (below_drewN HB0.out 1) hb2)
  have HR := Lib.hid hr
  have HN2 := Lib.hid hn2
  refine ⟨hn2, ?_⟩
  clear hr hn2 hb2 hown
  refine mix_e rfl rfl ?_
  go_simp
  refine (callsIn_wide.2 (fetch_any f g a b x y r chapL w2 HR.out ha ha2 hx0 hx1 hy0 hy1)).mono ?_
  rw [HCL.out, HF.out, HE.out, H64.out]
  rintro e w3 ⟨⟨p, rfl, hown⟩, hb3⟩
  have hn3 : w3.heap[w.heap.size]? = some (.cells #[.int .i64 f, .int .i64 g, .int .i64 a] 23 (0, 0)) := (hb3.block w.heap.size (blk_lt HN2.out)).trans HN2.out
  have HB3 := Lib.hid (below_nxt HB2.out hb3)
  have HN3 := Lib.hid hn3
  refine ⟨hn3, ?_⟩
  clear hn3 hb3
  iterate 3 (refine mix_q rfl rfl (fun w' hB => by go_simp; rfl) ?_; simp only [Act.put, List.setIfInBounds_toArray, List.set_cons_succ, List.set_cons_zero])
  refine mix_e rfl rfl ?_
  go_simp
  refine ⟨HN3.out, ?_⟩
  refine mix_e rfl rfl ?_
  go_simp
  refine mix_nil ?_
  have hrF : Rd .u8 w3 p F := Rd.of_owns (by rw [H64.out]; exact hown) (by rw [H64.out]; decide)
  obtain ⟨pb, po, pc, rfl, hpb, hpc, _⟩ := hrF.solid (by rw [H64.out]; decide)
  have hs8 := hrF.sub 0 8 pc (by rw [H64.out]; decide) (by rw [H64.out] at hpc; omega)
  rw [Nat.add_zero, List.drop_zero, HL.out] at hs8
  have hv3 := HV.out.below HB3.out
  rw [H64.out] at hpc ⊢
  have HS8 := Lib.hid hs8
  have HV3 := Lib.hid hv3
  have h8 : 8 ≤ pc := by omega
  clear hown hrF hs8 hv3
  go_wp2_with (go_at_call 25; refine (sameBytes_true _ _ L _ HS8.out HV3.out).mono ?_; rintro e w' ⟨rfl, rfl⟩)
  go_ret
  exact ⟨rfl, HB3.out⟩
/-- A row of numbers, new. -/
theorem Rd.lit (k : IntKind) (t : TypeId) (ns : List Int) (w : World) (h : ns.length ≤ 1000) : Rd k (w.alloc (.cells (ns.map (Value.int k)).toArray t)) (.slice (some ⟨w.heap.size, 0, none⟩) ns.length ns.length) ns :=
  Rd.of_owns (xs := ns) (k := k) (by have := owns_new (w := w) t (ns.map (Value.int k)) (by simp [maxLen]; omega); simpa using this) (by omega)
theorem chap_row (f g a b x y : Int) (ws : List Int) (hE : fetE f g a 38016 b x y = 0) (hq : ∀ k : Nat, k < 8 → (fetI f g a b x y k).toNat < 38016) (hw : ws = (List.range 8).map (fun k => if (fetI f g a b x y k).toNat < 25344 then (((fetI f g a b x y k).toNat % 176 : Nat) : Int) else ((((fetI f g a b x y k).toNat - 25344) % 6336 / 88 : Nat) : Int))) :
    (fetL f g a chapL b x y).take 8 = ws := by
  rw [fetL_len (by rw [chapL_len]; exact hE), ← List.map_take, List.take_range, hw]
  refine List.map_congr_left fun k hk => ?_
  have hk' : k < 8 := by simpa using hk
  rw [chapL_at (hq k hk')]
  rfl
end Go.Proofs.Ytcieggaihelacaa
