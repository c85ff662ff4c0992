/- The shared kit's functions on bytes: whether two are the same, written over, lent, kept, copied; a block of bytes that is wholly known. No condition but those in the statements. -/
import Derived.Test.YtcieggaihelacaaMol
import Derived.Laws.BytesArg
import Derived.Deep.OwnRows
import Derived.Laws.OwnMore
set_option linter.unusedSimpArgs false
set_option linter.unusedVariables false
namespace Go.Proofs.Ytcieggaihelacaa
open Go.RowKit
/-- A block of bytes: the numbers xs, then the cells tl. -/
def Pic (w : World) (g : Nat) (xs : List Int) (tl : List Value) : Prop := w.heap[g]? = some (.cells ((xs.map (Value.int .u8)) ++ tl).toArray 5 (0, 0))
section
variable {w w' : World} {g : Nat} {xs : List Int} {tl : List Value}
theorem Pic.lt (h : Pic w g xs tl) : g < w.heap.size := blk_lt h
theorem Pic.kept {row : Option Nat} (h : Pic w g xs tl) (hg : w.grownBy w' row) (hne : some g ≠ row) : Pic w' g xs tl := blk_kept h hg hne
theorem Pic.below (h : Pic w g xs tl) (hb : Below w.heap.size w w') : Pic w' g xs tl := blk_kept h (below_grown hb none) (by simp)
theorem Pic.drewN (h : Pic w g xs tl) (n : Nat) : Pic (w.drewN n) g xs tl := h
theorem Pic.alloc (h : Pic w g xs tl) (o : Obj) : Pic (w.alloc o) g xs tl := h.below ((Below.refl _ w).alloc (Nat.le_refl _) o)
theorem Pic.cell (h : Pic w g xs tl) {i : Nat} (hi : i < xs.length) : w.cell? ⟨g, i, none⟩ = some (.int .u8 (xs[i]?.getD 0)) := by
  rw [blk_cell h, List.getElem?_toArray, List.getElem?_append_left (by simpa using hi), List.getElem?_map]
  simp [hi]
theorem Pic.free (h : Pic w g xs tl) (i : Nat) : w.frozen? ⟨g, i, none⟩ = false := blk_free h i
theorem Pic.set (h : Pic w g xs tl) {i : Nat} (hi : i < xs.length) (y : Int) : Pic (w.setCell ⟨g, i, none⟩ (.int .u8 y)) g (xs.set i y) tl := by
  have := blk_set h i (.int .u8 y)
  unfold Pic
  rw [this, List.setIfInBounds_toArray, List.set_append_left i _ (by simpa using hi), List.map_set]
theorem Pic.rd (h : Pic w g xs tl) (hl : xs.length ≤ 140737488351232) {c : Nat} (hc : xs.length ≤ c) : Rd .u8 w (.slice (some ⟨g, 0, none⟩) xs.length c) xs :=
  Or.inr ⟨g, 0, c, rfl, h.lt, hc, hl, fun i hi => by rw [Nat.zero_add]; exact h.cell hi⟩
theorem Pic.of_owns {base : Nat} {v : Value} (h : w.ownsRow base 5 1 v xs.length (xs.map (Value.int .u8))) :
    (v = .slice none 0 0 ∧ xs = []) ∨ ∃ g tl, v = .slice (some ⟨g, 0, none⟩) xs.length (xs.length + tl.length) ∧ base ≤ g ∧ Pic w g xs tl ∧ xs.length + tl.length ≤ maxLen := by
  rcases owns_blk h with ⟨rfl, h1, h2⟩ | ⟨g, cap, cur, rfl, hb, hh, hnc, hcm, hs, ht⟩
  · exact .inl ⟨rfl, List.eq_nil_of_length_eq_zero h1⟩
  · have e : cur.toList = xs.map (Value.int .u8) ++ cur.toList.drop xs.length := by rw [← ht, List.take_append_drop]
    have hcs : cur.toList.length = cap := by simpa using hs
    have e2 : xs.length + (cur.toList.drop xs.length).length = cap := by rw [List.length_drop]; omega
    refine .inr ⟨g, cur.toList.drop xs.length, by rw [e2], hb, ?_, by omega⟩
    unfold Pic
    rw [← e, hh]
theorem Pic.owns (h : Pic w g xs tl) {base : Nat} (hb : base ≤ g) (hm : xs.length + tl.length ≤ maxLen) : w.ownsRow base 5 1 (.slice (some ⟨g, 0, none⟩) xs.length (xs.length + tl.length)) xs.length (xs.map (Value.int .u8)) :=
  ⟨by simp, .inr ⟨g, xs.length + tl.length, _, rfl, hb, h, by omega, hm, by simp, by simp⟩⟩
end
theorem Rd.conv {w : World} {v : Value} {xs : List Int} (h : Rd .u8 w v xs) : (convert 24 9 v).run Try.prog w = .ok (.string (strOfNums xs)) w := by
  rcases h with ⟨rfl, rfl⟩ | ⟨b, off, cap, rfl, _, _, _, hc⟩
  · rw [run_convert_bytes_nil w 24 5 Try.underlying24 Try.underlying5 0 0 9 Try.underlying9]; rfl
  · exact run_convert_bytes_arg w 24 5 Try.underlying24 Try.underlying5 b off xs.length cap xs rfl (fun i hi => by rw [hc i hi]; rfl) 9 Try.underlying9

theorem sameBytes_true (v u : Value) (xs : List Int) (w : World) (h : Rd .u8 w v xs) (g : Rd .u8 w u xs) :
    Calls Try.prog 25 #[v, u] w fun e w' => e = .returned (.bool true) ∧ w = w' := by
  have e1 := h.conv
  have e2 := g.conv
  clear h g
  go_enter Try.func25, Try.ntmps25
  go_wp2
  go_ret
  exact ⟨by simp, rfl⟩
theorem overBytes_any (v : Value) (base : Nat) (xs : List Int) (w : World) (h : w.ownsRow base 5 1 v xs.length (xs.map (Value.int .u8))) (hn : xs.length ≤ 140737488351232) :
    Calls Try.prog 28 #[v] w fun e w' => (∃ r, e = .returned r) ∧ w.grownBy w' v.ownBlock := by
  rcases Pic.of_owns h with ⟨rfl, rfl⟩ | ⟨g, tl, rfl, hb, hp, hm⟩
  · go_enter Try.func28, Try.ntmps28
    go_wp2
    go_loop [2] (fun i => i = .int .i64 0) (fun _ => 0)
    case atStart => rfl
    case round =>
      subst hrel
      go_wp2
      go_end0
      exact ⟨⟨_, rfl⟩, World.grownBy.refl _ _⟩
  · clear h
    obtain ⟨n, hnl⟩ : ∃ n, xs.length = n := ⟨_, rfl⟩
    have HN := Lib.hid hnl
    rw [hnl] at hn ⊢
    clear hnl
    go_enter Try.func28, Try.ntmps28
    go_wp2
    go_loopw [2] (fun i wr => ∃ k : Nat, k ≤ n ∧ i = .int .i64 k ∧ w.grownBy wr (some g) ∧ ∃ ys : List Int, ys.length = n ∧ Pic wr g ys tl) (fun i _ => n - (intOf i).toNat)
    case atStart => exact ⟨0, Nat.zero_le _, rfl, World.grownBy.refl _ _, xs, HN.out, hp⟩
    case round =>
      obtain ⟨k, hk, rfl, hg, ys, hys, hpp⟩ := hrel
      have HP := Lib.hid hpp
      have HY := Lib.hid hys
      clear hpp hys hp
      by_cases hlt : k < n
      · have hc := HP.out.cell (i := k) (by rw [HY.out]; exact hlt)
        have hf := HP.out.free k
        generalize ys[k]?.getD 0 = u at hc
        go_wp2
        go_roundw
        case rel => exact ⟨k + 1, by omega, by go_num, hg.trans (grown_set wr ⟨g, k, none⟩ _), _, by rw [List.length_set]; exact HY.out, HP.out.set (by rw [HY.out]; exact hlt) _⟩
        case measure => simp [intOf]; omega
      · go_wp2
        go_end0
        exact ⟨⟨_, rfl⟩, hg⟩

def l4 : List Int := [201, 202, 203, 204]
def lent4 : List Value := [.int .u8 201, .int .u8 202, .int .u8 203, .int .u8 204]
theorem l4_map : l4.map (Value.int .u8) = lent4 := rfl
theorem Pic.snoc {w : World} {g : Nat} {xs ys : List Int} {tl : List Value} (h : Pic w g (xs ++ ys) tl) : Pic w g xs (ys.map (Value.int .u8) ++ tl) := by
  unfold Pic at *
  rw [h, List.map_append, List.append_assoc]
theorem Pic.unsnoc {w : World} {g : Nat} {xs ys : List Int} {tl : List Value} (h : Pic w g xs (ys.map (Value.int .u8) ++ tl)) : Pic w g (xs ++ ys) tl := by
  unfold Pic at *
  rw [h, List.map_append, List.append_assoc]
theorem copyBytes_any (v : Value) (xs : List Int) (w : World) (h : Rd .u8 w v xs) (hl : xs.length ≤ 1000000) :
    Calls Try.prog 64 #[v] w fun e w' => (∃ r, e = .returned r ∧ w'.ownsRow w.heap.size 5 1 r xs.length (xs.map (Value.int .u8))) ∧ Below w.heap.size w w' := by
  have hb := (Below.refl w.heap.size w).alloc (Nat.le_refl _) (Obj.cells #[] 5)
  have HB := Lib.hid hb
  clear hb
  go_enter Try.func64, Try.ntmps64
  go_wp2_with (at_builtin; refine wp_appN (base := w.heap.size) Try.elByte rfl rfl (owns_new 5 [] (by decide)) (h.alloc _) (by simp; omega) (by simp) ?_; simp only [List.length_nil, Nat.zero_add, List.nil_append]; intro a1 c1 w1 hown1 hgrow1 _)
  go_ret
  exact ⟨⟨_, rfl, hown1⟩, HB.out.grown hgrow1 (by simp) (fun j e => by cases e; exact Nat.le_refl _)⟩
theorem copyInts_any (v : Value) (xs : List Int) (w : World) (h : Rd .i64 w v xs) (hl : xs.length ≤ 1000000) :
    Calls Try.prog 57 #[v] w fun e w' => (∃ r, e = .returned r ∧ w'.ownsRow w.heap.size 3 1 r xs.length (xs.map (Value.int .i64))) ∧ Below w.heap.size w w' := by
  have hb := (Below.refl w.heap.size w).alloc (Nat.le_refl _) (Obj.cells #[] 3)
  have HB := Lib.hid hb
  clear hb
  go_enter Try.func57, Try.ntmps57
  go_wp2_with (at_builtin; refine wp_appN (base := w.heap.size) Try.elInt rfl rfl (owns_new 3 [] (by decide)) (h.alloc _) (by simp; omega) (by simp) ?_; simp only [List.length_nil, Nat.zero_add, List.nil_append]; intro a1 c1 w1 hown1 hgrow1 _)
  go_ret
  exact ⟨⟨_, rfl, hown1⟩, HB.out.grown hgrow1 (by simp) (fun j e => by cases e; exact Nat.le_refl _)⟩
theorem rd_l4 (w : World) : Rd .u8 (w.alloc (.cells #[.int .u8 201, .int .u8 202, .int .u8 203, .int .u8 204] 5)) (.slice (some ⟨w.heap.size, 0, none⟩) 4 4) l4 :=
  Rd.of_owns (xs := l4) (k := .u8) (owns_new 5 lent4 (by decide)) (by decide)
theorem lent_made {w : World} {base c : Nat} {a : Option Addr} {xs : List Int} (h : w.ownsRow base 5 1 (.slice a (xs.length + l4.length) c) (xs.length + l4.length) (xs.map (Value.int .u8) ++ l4.map (Value.int .u8))) :
    ∃ g tl, a = some ⟨g, 0, none⟩ ∧ c = xs.length + (4 + tl.length) ∧ base ≤ g ∧ Pic w g xs (lent4 ++ tl) ∧ xs.length + (4 + tl.length) ≤ maxLen := by
  have e4 : l4.length = 4 := rfl
  rw [← List.map_append, show xs.length + l4.length = (xs ++ l4).length by simp] at h
  rcases Pic.of_owns h with ⟨e, e2⟩ | ⟨g, tl, e, hb, hp, hm⟩
  · have := congrArg List.length e2
    simp [e4] at this
  · injection e with e1 e2 e3
    rw [List.length_append, e4] at e3 hm
    exact ⟨g, tl, e1, by omega, hb, hp.snoc, by omega⟩
theorem lentBytes_any (v : Value) (xs : List Int) (w : World) (h : Rd .u8 w v xs) (hl : xs.length ≤ 1000000) :
    Calls Try.prog 22 #[v] w fun e w' => (∃ g tl, e = .returned (.slice (some ⟨g, 0, none⟩) xs.length (xs.length + (4 + tl.length))) ∧ w.heap.size ≤ g ∧ Pic w' g xs (lent4 ++ tl) ∧ xs.length + (4 + tl.length) ≤ maxLen) ∧ Below w.heap.size w w' := by
  obtain ⟨va, vc, rfl⟩ := h.form
  have hb := (Below.refl w.heap.size w).alloc (Nat.le_refl _) (Obj.cells #[] 5)
  have HB := Lib.hid hb
  clear hb
  go_enter Try.func22, Try.ntmps22
  go_wp2_with (first
    | (at_builtin; refine wp_appN (base := w.heap.size) Try.elByte rfl rfl (hown1.alloc _) (rd_l4 _) (by simp [l4]; omega) (by simp; omega) ?_; intro a2 c2 w2 hown2 hgrow2 _; obtain ⟨g, tl, rfl, rfl, hg, hp, hm⟩ := lent_made hown2; have hle : xs.length ≤ xs.length + (4 + tl.length) := by omega)
    | (at_builtin; refine wp_appN (base := w.heap.size) Try.elByte rfl rfl (owns_new 5 [] (by decide)) (h.alloc _) (by simp; omega) (by simp) ?_; simp only [List.length_nil, Nat.zero_add, List.nil_append]; intro a1 c1 w1 hown1 hgrow1 _; have hs1 := hgrow1.size; simp only [World.size_alloc] at hs1))
  have h1 := HB.out.grown hgrow1 (by simp) (fun j e => by cases e; exact Nat.le_refl _)
  have h2 := (h1.alloc (by omega) _).grown hgrow2 (by simp; omega) (fun j e => (hown1.lt j e).1)
  go_ret
  exact ⟨⟨g, tl, rfl, hg, hp, hm⟩, h2⟩
end Go.Proofs.Ytcieggaihelacaa
