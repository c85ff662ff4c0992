/- The contract of the program's Fetch. -/
import Derived.Test.YtcieggaihelacaaMod
import Derived.Scope
set_option linter.unusedSimpArgs false
set_option linter.unusedVariables false
namespace Go.Proofs.Ytcieggaihelacaa
open Go.RowKit Go.Shelf
attribute [local go_sem] Oper.semAt_some
theorem wpIn_scope {n : Nat} {P : Program} {c : Code} {Q : Exit → Act → World → Prop} {a : Act} {w : World} (h : c.wpIn Fence.wide n P (Exit.noGoto Q) a w) : (Code.scope c).wpIn Fence.wide n P Q a w := wpIn_wide.2 (wp_scope_straight (wpIn_wide.1 h))
theorem noGoto_ret {Q : Exit → Act → World → Prop} {a : Act} {w : World} (h : Q .ret a w) : Exit.noGoto Q .ret a w := h
/-- Rows of cells that lie as they lay. -/
def Lies (L : List (Nat × Obj)) (V : World) : Prop := ∀ p ∈ L, V.heap[p.1]? = some p.2
theorem Lies.next {L : List (Nat × Obj)} {V U : World} (h : Lies L V) (hb : Below V.heap.size V U) : Lies L U := fun p hp => (hb.block _ (blk_lt (h p hp))).trans (h p hp)
theorem Lies.cons {L : List (Nat × Obj)} {V : World} {p : Nat × Obj} (h : Lies L V) (hp : V.heap[p.1]? = some p.2) : Lies (p :: L) V := fun q hq => by
  rcases List.mem_cons.1 hq with rfl | hq
  · exact hp
  · exact h q hq
theorem Lies.alloc {L : List (Nat × Obj)} {V : World} (h : Lies L V) (o : Obj) : Lies ((V.heap.size, o) :: L) (V.alloc o) := (h.next ((Below.refl _ _).alloc (Nat.le_refl _) o)).cons (World.alloc_heap_new V o)
theorem Lies.head {p : Nat × Obj} {L : List (Nat × Obj)} {V : World} (h : Lies (p :: L) V) : V.heap[p.1]? = some p.2 := h p (by simp)
theorem Lies.tail {p : Nat × Obj} {L : List (Nat × Obj)} {V : World} (h : Lies (p :: L) V) : Lies L V := fun q hq => h q (List.mem_cons_of_mem _ hq)
theorem Lies.nil (V : World) : Lies [] V := fun _ h => by cases h

set_option maxRecDepth 100000 in
set_option maxHeartbeats 4000000 in
theorem fetch_bad (f g a b x y : Int) (v : Value) (xs : List Int) (w : World) (h : Rd .u8 w v xs) (ha : -9223372036854775808 ≤ a) (ha2 : a ≤ 9223372036854775807) (hx0 : -9223372036854775808 ≤ x) (hx1 : x ≤ 9223372036854775807) (hy0 : -9223372036854775808 ≤ y) (hy1 : y ≤ 9223372036854775807)
    (hne : fetE f g a xs.length b x y ≠ 0) :
    Calls Try.prog 23 #[v, .agg #[.int .i64 f, .int .i64 g, .int .i64 a], .int .i64 b, .int .i64 x, .int .i64 y] w fun e w' => e = .returned (.tuple #[.slice none 0 0, .int .i64 (fetE f g a xs.length b x y)]) ∧ Below w.heap.size w w' := by
  refine (callsIn_wide (n := 0)).1 ?_
  have hwf : ∀ f, Fence.wide.fn f := fun _ => trivial
  have hwd : Fence.wide.depth = none := rfl
  have hlen := h.len
  obtain ⟨ad, cap, rfl⟩ := h.form
  clear h
  obtain ⟨n, hn⟩ : ∃ n, xs.length = n := ⟨_, rfl⟩
  have hB0 := (((Below.refl w.heap.size w).alloc (Nat.le_refl _) (Obj.cells #[.int .i64 f, .int .i64 g, .int .i64 a] 23)).alloc (by simp) (Obj.cells #[.int .i64 x] 3)).alloc (by simp <;> omega) (Obj.cells #[.int .i64 y] 3)
  have hL0 := (((Lies.nil w).alloc (Obj.cells #[.int .i64 f, .int .i64 g, .int .i64 a] 23)).alloc (Obj.cells #[.int .i64 x] 3)).alloc (Obj.cells #[.int .i64 y] 3)
  simp only [World.size_alloc] at hL0
  have HL0 := Lib.hid hL0
  have HB0 := Lib.hid hB0
  clear hL0 hB0
  have k0 := HL0.out.tail.tail.head
  have c0 := blk_cell k0 0
  have c1 := blk_cell k0 1
  have c2 := blk_cell k0 2
  simp only [List.getElem?_toArray, List.getElem?_cons_zero, List.getElem?_cons_succ] at c0 c1 c2
  clear k0
  rcases fet_cases f g a xs b x y with ⟨hc, e, _⟩ | ⟨hc, h1, e, _⟩ | ⟨hc, h1, h2, e, _⟩ | ⟨hc, h1, h2, h3, e, _⟩ | ⟨hc, h1, h2, h3, e, _⟩
  · rw [e]; clear e hne
    have ht : (cornE f g a != 0) = true := by simpa using hc
    clear hc
    (refine callsIn_of_wp_marks Try.func23 rfl trivial ?_ rfl; simp only [Try.ntmps23, List.size_toArray, List.length_cons, List.length_nil, Nat.reduceAdd, Nat.reduceSub, Array.replicate_succ, Array.replicate_zero, List.push_toArray, List.append_toArray, List.nil_append, List.cons_append])
    gi_wp2
    refine wpIn_scope ?_
    gi_wp2_with (gi_at_call 46; refine (callsIn_wide.2 (Corner_any _ _ _ _ ha ha2)).mono ?_; rintro e w1 ⟨rfl, hb'⟩; have hB := below_nxt HB0.out hb'; clear hb')
    refine noGoto_ret ⟨_, by simp [results, Try.results23, go_sem], rfl, ?_⟩
    exact (hB.alloc hB.size _).alloc (by have := hB.size; simp <;> omega) _
  · rw [e]; clear e hne
    have ht : ((n : Int) != bytesS f) = true := by rw [← hn]; simpa using h1
    clear h1
    (refine callsIn_of_wp_marks Try.func23 rfl trivial ?_ rfl; simp only [Try.ntmps23, List.size_toArray, List.length_cons, List.length_nil, Nat.reduceAdd, Nat.reduceSub, Array.replicate_succ, Array.replicate_zero, List.push_toArray, List.append_toArray, List.nil_append, List.cons_append])
    gi_wp2
    refine wpIn_scope ?_
    gi_wp2_with (first
      | (gi_at_call 46; refine (callsIn_wide.2 (Corner_any _ _ _ _ ha ha2)).mono ?_; rw [hc]; rintro e w1 ⟨rfl, hb'⟩; have hL := HL0.out.next hb'; have hB := below_nxt HB0.out hb'; clear hb' c0 c1 c2; have hB2 := hB.alloc hB.size (Obj.cells #[.int .i64 (cornX f g a)] 3); have hB3 := hB2.alloc hB2.size (Obj.cells #[.int .i64 (cornY f g a)] 3); have hL3 := (hL.alloc (Obj.cells #[.int .i64 (cornX f g a)] 3)).alloc (Obj.cells #[.int .i64 (cornY f g a)] 3); have k0 := hL3.tail.tail.tail.tail.head; have c0 := blk_cell k0 0; have c1 := blk_cell k0 1; have c2 := blk_cell k0 2; have c8 := blk_cell hL3.tail.tail.tail.head 0; have c9 := blk_cell hL3.tail.tail.head 0; simp only [List.getElem?_toArray, List.getElem?_cons_zero, List.getElem?_cons_succ] at c0 c1 c2 c8 c9; have HL := Lib.hid hL3; have HB := Lib.hid hB3; clear hL hB hB2 hB3 hL3 k0)
      | (gi_at_call 37; refine (callsIn_wide.2 (size_any _ _)).mono ?_; rintro e w' ⟨rfl, rfl⟩))
    exact noGoto_ret ⟨_, by simp [results, Try.results23, go_sem], rfl, HB.out⟩
  · rw [e]; clear e hne
    have ht : ((n : Int) != bytesS f) = false := by rw [← hn]; simpa using h1
    clear h1
    have h2' : b < 1 ∨ (1 ≤ b ∧ 6 < b) := by omega
    clear h2
    rcases h2' with h2 | h2
    all_goals
      (refine callsIn_of_wp_marks Try.func23 rfl trivial ?_ rfl; simp only [Try.ntmps23, List.size_toArray, List.length_cons, List.length_nil, Nat.reduceAdd, Nat.reduceSub, Array.replicate_succ, Array.replicate_zero, List.push_toArray, List.append_toArray, List.nil_append, List.cons_append])
      gi_wp2
      refine wpIn_scope ?_
      gi_wp2_with (first
        | (gi_at_call 46; refine (callsIn_wide.2 (Corner_any _ _ _ _ ha ha2)).mono ?_; rw [hc]; rintro e w1 ⟨rfl, hb'⟩; have hL := HL0.out.next hb'; have hB := below_nxt HB0.out hb'; clear hb' c0 c1 c2; have hB2 := hB.alloc hB.size (Obj.cells #[.int .i64 (cornX f g a)] 3); have hB3 := hB2.alloc hB2.size (Obj.cells #[.int .i64 (cornY f g a)] 3); have hL3 := (hL.alloc (Obj.cells #[.int .i64 (cornX f g a)] 3)).alloc (Obj.cells #[.int .i64 (cornY f g a)] 3); have k0 := hL3.tail.tail.tail.tail.head; have c0 := blk_cell k0 0; have c1 := blk_cell k0 1; have c2 := blk_cell k0 2; have c8 := blk_cell hL3.tail.tail.tail.head 0; have c9 := blk_cell hL3.tail.tail.head 0; simp only [List.getElem?_toArray, List.getElem?_cons_zero, List.getElem?_cons_succ] at c0 c1 c2 c8 c9; have HL := Lib.hid hL3; have HB := Lib.hid hB3; clear hL hB hB2 hB3 hL3 k0)
        | (gi_at_call 37; refine (callsIn_wide.2 (size_any _ _)).mono ?_; rintro e w' ⟨rfl, rfl⟩))
      exact noGoto_ret ⟨_, by simp [results, Try.results23, go_sem], rfl, HB.out⟩
  · rw [e]; clear e hne
    have ht : ((n : Int) != bytesS f) = false := by rw [← hn]; simpa using h1
    have ht2 : (fitsE f g a x y != 0) = true := by simpa using h3
    clear h1 h3
    (refine callsIn_of_wp_marks Try.func23 rfl trivial ?_ rfl; simp only [Try.ntmps23, List.size_toArray, List.length_cons, List.length_nil, Nat.reduceAdd, Nat.reduceSub, Array.replicate_succ, Array.replicate_zero, List.push_toArray, List.append_toArray, List.nil_append, List.cons_append])
    gi_wp2
    refine wpIn_scope ?_
    gi_wp2_with (first
      | (gi_at_call 46; refine (callsIn_wide.2 (Corner_any _ _ _ _ ha ha2)).mono ?_; rw [hc]; rintro e w1 ⟨rfl, hb'⟩; have hL := HL0.out.next hb'; have hB := below_nxt HB0.out hb'; clear hb' c0 c1 c2; have hB2 := hB.alloc hB.size (Obj.cells #[.int .i64 (cornX f g a)] 3); have hB3 := hB2.alloc hB2.size (Obj.cells #[.int .i64 (cornY f g a)] 3); have hL3 := (hL.alloc (Obj.cells #[.int .i64 (cornX f g a)] 3)).alloc (Obj.cells #[.int .i64 (cornY f g a)] 3); have k0 := hL3.tail.tail.tail.tail.head; have c0 := blk_cell k0 0; have c1 := blk_cell k0 1; have c2 := blk_cell k0 2; have c8 := blk_cell hL3.tail.tail.tail.head 0; have c9 := blk_cell hL3.tail.tail.head 0; simp only [List.getElem?_toArray, List.getElem?_cons_zero, List.getElem?_cons_succ] at c0 c1 c2 c8 c9; have HL := Lib.hid hL3; have HB := Lib.hid hB3; clear hL hB hB2 hB3 hL3 k0)
      | (gi_at_call 37; refine (callsIn_wide.2 (size_any _ _)).mono ?_; rintro e w' ⟨rfl, rfl⟩)
      | (gi_at_call 26; refine (callsIn_wide.2 (fits_any _ _ _ _ _ _ ha ha2 hx0 hx1 hy0 hy1)).mono ?_; rintro e w2 ⟨rfl, hb2⟩))
    exact noGoto_ret ⟨_, by simp [results, Try.results23, go_sem], rfl, below_nxt HB.out hb2⟩
  · exact absurd e hne
end Go.Proofs.Ytcieggaihelacaa
