/- What is fetched: the plain functions; a part of a slice; the bounds. -/
import Derived.Test.YtcieggaihelacaaBtc
import Derived.Scope
set_option linter.unusedSimpArgs false
set_option linter.unusedVariables false
namespace Go.Proofs.Ytcieggaihelacaa
open Go.RowKit
def sxS (b x : Int) : Int := if 4 < b then halfS x else x
def fetI (f g a b x y : Int) (k : Nat) : Int := plcV f (cornerX f g a) (cornerY g a) b + ((k : Int) / 8 + sxS b y) * plcS f b + (k : Int) % 8 + sxS b x
def fetE (f g a : Int) (n : Nat) (b x y : Int) : Int := if cornE f g a = 0 then (if (n : Int) = bytesS f then (if 1 ≤ b ∧ b ≤ 6 then fitsE f g a x y else 3) else 2) else cornE f g a
def fetL (f g a : Int) (xs : List Int) (b x y : Int) : List Int := if fetE f g a xs.length b x y = 0 then (List.range 64).map (fun k => xs[(fetI f g a b x y k).toNat]?.getD 0) else []
theorem fet_cases (f g a : Int) (xs : List Int) (b x y : Int) :
    (cornE f g a ≠ 0 ∧ fetE f g a xs.length b x y = cornE f g a ∧ fetL f g a xs b x y = []) ∨
    (cornE f g a = 0 ∧ (xs.length : Int) ≠ bytesS f ∧ fetE f g a xs.length b x y = 2 ∧ fetL f g a xs b x y = []) ∨
    (cornE f g a = 0 ∧ (xs.length : Int) = bytesS f ∧ ¬ (1 ≤ b ∧ b ≤ 6) ∧ fetE f g a xs.length b x y = 3 ∧ fetL f g a xs b x y = []) ∨
    (cornE f g a = 0 ∧ (xs.length : Int) = bytesS f ∧ (1 ≤ b ∧ b ≤ 6) ∧ fitsE f g a x y ≠ 0 ∧ fetE f g a xs.length b x y = fitsE f g a x y ∧ fetL f g a xs b x y = []) ∨
    (cornE f g a = 0 ∧ (xs.length : Int) = bytesS f ∧ (1 ≤ b ∧ b ≤ 6) ∧ fitsE f g a x y = 0 ∧ fetE f g a xs.length b x y = 0 ∧ fetL f g a xs b x y = (List.range 64).map (fun k => xs[(fetI f g a b x y k).toNat]?.getD 0)) := by
  unfold fetL
  by_cases h1 : cornE f g a = 0
  · by_cases h2 : (xs.length : Int) = bytesS f
    · by_cases h3 : 1 ≤ b ∧ b ≤ 6
      · have e : fetE f g a xs.length b x y = fitsE f g a x y := by unfold fetE; rw [if_pos h1, if_pos h2, if_pos h3]
        by_cases h4 : fitsE f g a x y = 0
        · exact .inr (.inr (.inr (.inr ⟨h1, h2, h3, h4, by rw [e, h4], by rw [e, if_pos h4]⟩)))
        · exact .inr (.inr (.inr (.inl ⟨h1, h2, h3, h4, e, by rw [e, if_neg h4]⟩)))
      · have e : fetE f g a xs.length b x y = 3 := by unfold fetE; rw [if_pos h1, if_pos h2, if_neg h3]
        exact .inr (.inr (.inl ⟨h1, h2, h3, e, by rw [e]; rfl⟩))
    · have e : fetE f g a xs.length b x y = 2 := by unfold fetE; rw [if_pos h1, if_neg h2]
      exact .inr (.inl ⟨h1, h2, e, by rw [e]; rfl⟩)
  · have e : fetE f g a xs.length b x y = cornE f g a := by unfold fetE; rw [if_neg h1]
    exact .inl ⟨h1, e, by rw [e, if_neg h1]⟩
theorem Rd.sub {k : IntKind} {w : World} {b off cap : Nat} {xs : List Int} (h : Rd k w (.slice (some ⟨b, off, none⟩) xs.length cap) xs) (lo m cap' : Nat) (hm : lo + m ≤ xs.length) (hc : m ≤ cap') : Rd k w (.slice (some ⟨b, off + lo, none⟩) m cap') ((xs.drop lo).take m) := by
  have hl := h.len
  rcases h with ⟨h, _⟩ | ⟨b', off', cap'', h, h1, h2, _, h4⟩
  · cases h
  · cases h
    have e : ((xs.drop lo).take m).length = m := by rw [List.length_take, List.length_drop]; omega
    refine Or.inr ⟨b, off + lo, cap', by rw [e], h1, by omega, by omega, fun i hi => ?_⟩
    rw [e] at hi
    rw [Nat.add_assoc, h4 (lo + i) (by omega), List.getElem?_take, if_pos hi, List.getElem?_drop]
theorem sub_at (xs : List Int) (lo m i : Nat) (hi : i < m) : ((xs.drop lo).take m)[i]?.getD 0 = xs[lo + i]?.getD 0 := by rw [List.getElem?_take, if_pos hi, List.getElem?_drop]
/-- The rows of cells that a step wrote to, where each of them was one. -/
theorem KB.row {S : Nat → Prop} {B : Nat} {W W' : World} {row : Option Nat} (hg : W.grownBy W' row) (hr : ∀ k, row = some k → S k ∧ ∃ o : Obj, W.heap[k]? = some o ∧ o.isCells = true) : KB S B W W' :=
  ⟨KC.grown hg (fun k e => (hr k e).1), ⟨hg.size, fun i o _ hi ho => (hg.block i (blk_lt hi) (fun e => by
    obtain ⟨_, o', h1, h2⟩ := hr i e.symm
    rw [hi] at h1; cases h1; rw [ho] at h2; cases h2)).trans hi⟩⟩
theorem owns_cells {w : World} {base n size g : Nat} {e : TypeId} {v : Value} {xs : List Value} (h : w.ownsRow base e size v n xs) (hg : v.ownBlock = some g) : ∃ o : Obj, w.heap[g]? = some o ∧ o.isCells = true := by
  rcases h.2 with ⟨rfl, _⟩ | ⟨g', cap, cur, rfl, _, hh, _⟩
  · cases hg
  · simp only [Value.ownBlock] at hg
    cases hg
    exact ⟨_, hh, rfl⟩
theorem Ab.owns {B base size : Nat} {T : Nat → Prop} {e : TypeId} {v : Value} (n : Nat → Nat) (xs : Nat → List Value) (hT : ∀ k, ¬ T k) : Ab B T (fun k W => W.ownsRow base e size v (n k) (xs k)) := fun k W W' row hj hg hr =>
  hj.kept hg (by
    by_cases hn : v.ownBlock = none
    · exact .inl hn
    · obtain ⟨b, hb⟩ := Option.ne_none_iff_exists'.1 hn
      refine .inr (fun e' => ?_)
      rcases hr b (e'.symm.trans hb) with h | ⟨_, o, h1, h2⟩
      · exact hT b h
      · obtain ⟨o', h3, h4⟩ := owns_cells hj hb
        rw [h1] at h3; cases h3; rw [h2] at h4; cases h4)
end Go.Proofs.Ytcieggaihelacaa
/- The contract of the program's Fetch. -/
set_option linter.unusedSimpArgs false
set_option linter.unusedVariables false
namespace Go.Proofs.Ytcieggaihelacaa
open Go.RowKit Go.Shelf
attribute [local go_sem] Oper.semAt_some
theorem wpIn_scope {n : Nat} {P : Program} {c : Code} {Q : Exit → Act → World → Prop} {a : Act} {w : World} (h : c.wpIn Fence.wide n P (Exit.noGoto Q) a w) : (Code.scope c).wpIn Fence.wide n P Q a w := wpIn_wide.2 (wp_scope_straight (wpIn_wide.1 h))
theorem noGoto_ret {Q : Exit → Act → World → Prop} {a : Act} {w : World} (h : Q .ret a w) : Exit.noGoto Q .ret a w := h
/-- Rows of cells that lie as they lay. -/
def Lies (L : List (Nat × Obj)) (V : World) : Prop := ∀ p ∈ L, V.heap[p.1]? = some p.2
theorem Lies.next {L : List (Nat × Obj)} {V U : World} (h : Lies L V) (hb : Below V.heap.size V U) : Lies L U := fun p hp => (hb.block _ (blk_lt (h p hp))).trans (h p hp)
theorem Lies.cons {L : List (Nat × Obj)} {V : World} {p : Nat × Obj} (h : Lies L V) (hp : V.heap[p.1]? = some p.2) : Lies (p :: L) V := fun q hq => by
  rcases List.mem_cons.1 hq with rfl | hq
  · exact hp
  · exact h q hq
theorem Lies.alloc {L : List (Nat × Obj)} {V : World} (h : Lies L V) (o : Obj) : Lies ((V.heap.size, o) :: L) (V.alloc o) := (h.next ((Below.refl _ _).alloc (Nat.le_refl _) o)).cons (World.alloc_heap_new V o)
theorem Lies.head {p : Nat × Obj} {L : List (Nat × Obj)} {V : World} (h : Lies (p :: L) V) : V.heap[p.1]? = some p.2 := h p (by simp)
theorem Lies.tail {p : Nat × Obj} {L : List (Nat × Obj)} {V : World} (h : Lies (p :: L) V) : Lies L V := fun q hq => h q (List.mem_cons_of_mem _ hq)
theorem Lies.nil (V : World) : Lies [] V := fun _ h => by cases h

set_option maxRecDepth 100000 in
set_option maxHeartbeats 4000000 in
theorem fetch_bad (f g a b x y : Int) (v : Value) (xs : List Int) (w : World) (h : Rd .u8 w v xs) (ha : -9223372036854775808 ≤ a) (ha2 : a ≤ 9223372036854775807) (hx0 : -9223372036854775808 ≤ x) (hx1 : x ≤ 9223372036854775807) (hy0 : -9223372036854775808 ≤ y) (hy1 : y ≤ 9223372036854775807)
    (hne : fetE f g a xs.length b x y ≠ 0) :
    Calls Try.prog 23 #[v, .agg #[.int .i64 f, .int .i64 g, .int .i64 a], .int .i64 b, .int .i64 x, .int .i64 y] w fun e w' => e = .returned (.tuple #[.slice none 0 0, .int .i64 (fetE f g a xs.length b x y)]) ∧ Below w.heap.size w w' := by
  refine (callsIn_wide (n := 0)).1 ?_
  have hwf : ∀ f, Fence.wide.fn f := fun _ => trivial
  have hwd : Fence.wide.depth = none := rfl
  have hlen := h.len
  obtain ⟨ad, cap, rfl⟩ := h.form
  clear h
  obtain ⟨n, hn⟩ : ∃ n, xs.length = n := ⟨_, rfl⟩
  have hB0 := (((Below.refl w.heap.size w).alloc (Nat.le_refl _) (Obj.cells #[.int .i64 f, .int .i64 g, .int .i64 a] 23)).alloc (by simp) (Obj.cells #[.int .i64 x] 3)).alloc (by simp <;> omega) (Obj.cells #[.int .i64 y] 3)
  have hL0 := (((Lies.nil w).alloc (Obj.cells #[.int .i64 f, .int .i64 g, .int .i64 a] 23)).alloc (Obj.cells #[.int .i64 x] 3)).alloc (Obj.cells #[.int .i64 y] 3)
  simp only [World.size_alloc] at hL0
  have HL0 := Lib.hid hL0
  have HB0 := Lib.hid hB0
  clear hL0 hB0
  have k0 := HL0.out.tail.tail.head
  have c0 := blk_cell k0 0
  have c1 := blk_cell k0 1
  have c2 := blk_cell k0 2
  simp only [List.getElem?_toArray, List.getElem?_cons_zero, List.getElem?_cons_succ] at c0 c1 c2
  clear k0
  rcases fet_cases f g a xs b x y with ⟨hc, e, _⟩ | ⟨hc, h1, e, _⟩ | ⟨hc, h1, h2, e, _⟩ | ⟨hc, h1, h2, h3, e, _⟩ | ⟨hc, h1, h2, h3, e, _⟩
  · rw [e]; clear e hne
    have ht : (cornE f g a != 0) = true := by simpa using hc
    clear hc
    (refine callsIn_of_wp_marks Try.func23 rfl trivial ?_ rfl; simp only [Try.ntmps23, List.size_toArray, List.length_cons, List.length_nil, Nat.reduceAdd, Nat.reduceSub, Array.replicate_succ, Array.replicate_zero, List.push_toArray, List.append_toArray, List.nil_append, List.cons_append])
    gi_wp2
    refine wpIn_scope ?_
    gi_wp2_with (gi_at_call 46; refine (callsIn_wide.2 (Corner_any _ _ _ _ ha ha2)).mono ?_; rintro e w1 ⟨rfl, hb'⟩; have hB := below_nxt HB0.out hb'; clear hb')
    refine noGoto_ret ⟨_, by simp [results, Try.results23, go_sem], rfl, ?_⟩
    exact (hB.alloc hB.size _).alloc (by have := hB.size; simp <;> omega) _
  · rw [e]; clear e hne
    have ht : ((n : Int) != bytesS f) = true := by rw [← hn]; simpa using h1
    clear h1
    (refine callsIn_of_wp_marks Try.func23 rfl trivial ?_ rfl; simp only [Try.ntmps23, List.size_toArray, List.length_cons, List.length_nil, Nat.reduceAdd, Nat.reduceSub, Array.replicate_succ, Array.replicate_zero, List.push_toArray, List.append_toArray, List.nil_append, List.cons_append])
    gi_wp2
    refine wpIn_scope ?_
    gi_wp2_with (first
      | (gi_at_call 46; refine (callsIn_wide.2 (Corner_any _ _ _ _ ha ha2)).mono ?_; rw [hc]; rintro e w1 ⟨rfl, hb'⟩; have hL := HL0.out.next hb'; have hB := below_nxt HB0.out hb'; clear hb' c0 c1 c2; have hB2 := hB.alloc hB.size (Obj.cells #[.int .i64 (cornX f g a)] 3); have hB3 := hB2.alloc hB2.size (Obj.cells #[.int .i64 (cornY f g a)] 3); have hL3 := (hL.alloc (Obj.cells #[.int .i64 (cornX f g a)] 3)).alloc (Obj.cells #[.int .i64 (cornY f g a)] 3); have k0 := hL3.tail.tail.tail.tail.head; have c0 := blk_cell k0 0; have c1 := blk_cell k0 1; have c2 := blk_cell k0 2; have c8 := blk_cell hL3.tail.tail.tail.head 0; have c9 := blk_cell hL3.tail.tail.head 0; simp only [List.getElem?_toArray, List.getElem?_cons_zero, List.getElem?_cons_succ] at c0 c1 c2 c8 c9; have HL := Lib.hid hL3; have HB := Lib.hid hB3; clear hL hB hB2 hB3 hL3 k0)
      | (gi_at_call 37; refine (callsIn_wide.2 (size_any _ _)).mono ?_; rintro e w' ⟨rfl, rfl⟩))
    exact noGoto_ret ⟨_, by simp [results, Try.results23, go_sem], rfl, HB.out⟩
  · rw [e]; clear e hne
    have ht : ((n : Int) != bytesS f) = false := by rw [← hn]; simpa using h1
    clear h1
    have h2' : b < 1 ∨ (1 ≤ b ∧ 6 < b) := by omega
    clear h2
    rcases h2' with h2 | h2
    all_goals
      (refine callsIn_of_wp_marks Try.func23 rfl trivial ?_ rfl; simp only [Try.ntmps23, List.size_toArray, List.length_cons, List.length_nil, Nat.reduceAdd, Nat.reduceSub, Array.replicate_succ, Array.replicate_zero, List.push_toArray, List.append_toArray, List.nil_append, List.cons_append])
      gi_wp2
      refine wpIn_scope ?_
      gi_wp2_with (first
        | (gi_at_call 46; refine (callsIn_wide.2 (Corner_any _ _ _ _ ha ha2)).mono ?_; rw [hc]; rintro e w1 ⟨rfl, hb'⟩; have hL := HL0.out.next hb'; have hB := below_nxt HB0.out hb'; clear hb' c0 c1 c2; have hB2 := hB.alloc hB.size (Obj.cells #[.int .i64 (cornX f g a)] 3); have hB3 := hB2.alloc hB2.size (Obj.cells #[.int .i64 (cornY f g a)] 3); have hL3 := (hL.alloc (Obj.cells #[.int .i64 (cornX f g a)] 3)).alloc (Obj.cells #[.int .i64 (cornY f g a)] 3); have k0 := hL3.tail.tail.tail.tail.head; have c0 := blk_cell k0 0; have c1 := blk_cell k0 1; have c2 := blk_cell k0 2; have c8 := blk_cell hL3.tail.tail.tail.head 0; have c9 := blk_cell hL3.tail.tail.head 0; simp only [List.getElem?_toArray, List.getElem?_cons_zero, List.getElem?_cons_succ] at c0 c1 c2 c8 c9; have HL := Lib.hid hL3; have HB := Lib.hid hB3; clear hL hB hB2 hB3 hL3 k0)
        | (gi_at_call 37; refine (callsIn_wide.2 (size_any _ _)).mono ?_; rintro e w' ⟨rfl, rfl⟩))
      exact noGoto_ret ⟨_, by simp [results, Try.results23, go_sem], rfl, HB.out⟩
  · rw [e]; clear e hne
    have ht : ((n : Int) != bytesS f) = false := by rw [← hn]; simpa using h1
    have ht2 : (fitsE f g a x y != 0) = true := by simpa using h3
    clear h1 h3
    (refine callsIn_of_wp_marks Try.func23 rfl trivial ?_ rfl; simp only [Try.ntmps23, List.size_toArray, List.length_cons, List.length_nil, Nat.reduceAdd, Nat.reduceSub, Array.replicate_succ, Array.replicate_zero, List.push_toArray, List.append_toArray, List.nil_append, List.cons_append])
    gi_wp2
    refine wpIn_scope ?_
    gi_wp2_with (first
      | (gi_at_call 46; refine (callsIn_wide.2 (Corner_any _ _ _ _ ha ha2)).mono ?_; rw [hc]; rintro e w1 ⟨rfl, hb'⟩; have hL := HL0.out.next hb'; have hB := below_nxt HB0.out hb'; clear hb' c0 c1 c2; have hB2 := hB.alloc hB.size (Obj.cells #[.int .i64 (cornX f g a)] 3); have hB3 := hB2.alloc hB2.size (Obj.cells #[.int .i64 (cornY f g a)] 3); have hL3 := (hL.alloc (Obj.cells #[.int .i64 (cornX f g a)] 3)).alloc (Obj.cells #[.int .i64 (cornY f g a)] 3); have k0 := hL3.tail.tail.tail.tail.head; have c0 := blk_cell k0 0; have c1 := blk_cell k0 1; have c2 := blk_cell k0 2; have c8 := blk_cell hL3.tail.tail.tail.head 0; have c9 := blk_cell hL3.tail.tail.head 0; simp only [List.getElem?_toArray, List.getElem?_cons_zero, List.getElem?_cons_succ] at c0 c1 c2 c8 c9; have HL := Lib.hid hL3; have HB := Lib.hid hB3; clear hL hB hB2 hB3 hL3 k0)
      | (gi_at_call 37; refine (callsIn_wide.2 (size_any _ _)).mono ?_; rintro e w' ⟨rfl, rfl⟩)
      | (gi_at_call 26; refine (callsIn_wide.2 (fits_any _ _ _ _ _ _ ha ha2 hx0 hx1 hy0 hy1)).mono ?_; rintro e w2 ⟨rfl, hb2⟩))
    exact noGoto_ret ⟨_, by simp [results, Try.results23, go_sem], rfl, below_nxt HB.out hb2⟩
  · exact absurd e hne
end Go.Proofs.Ytcieggaihelacaa
/- A region that draws its order, with several facts of the world, each good until its own operation is listed: for loads ahead of stores whose order is open. -/
set_option linter.unusedSimpArgs false
set_option linter.unusedVariables false
namespace Go.Proofs.Ytcieggaihelacaa
open Go.RowKit
section
variable {F : Fence} {n : Nat} {P : Program} {ops : Array Oper} {md : Region.Mode} {Q : Act → World → Prop} {Bs : List (Nat × (World → Prop))}

def AllF (Bs : List (Nat × (World → Prop))) (listed : Array Bool) (w : World) : Prop := ∀ p ∈ Bs, listed.getD p.1 false = false → p.2 w
def anyF (F : Fence) (n : Nat) (P : Program) (md : Region.Mode) (ops : Array Oper) (Bs : List (Nat × (World → Prop))) (Q : Act → World → Prop) : Nat → Array Bool → Act → World → Prop
  | 0, listed, a, w => Region.ready md ops listed = [] ∧ Q a w
  | f + 1, listed, a, w => (Region.ready md ops listed = [] → Q a w) ∧
    ∀ i ∈ Region.ready md ops listed, wpOpIn F n P ops noExit i (fun a' w' => AllF Bs (listed.setIfInBounds i true) w' ∧ anyF F n P md ops Bs Q f (listed.setIfInBounds i true) a' w') a w
theorem anyF_sound {Q' : Exit → Act → World → Prop} (hQ : ∀ a w, Q a w → Q' .normal a w) : ∀ (f : Nat) (listed : Array Bool) (a : Act) (w : World),
    anyF F n P md ops Bs Q f listed a w → wpAnyIn F n P md ops Q' f listed a w
  | 0, _, _, _, h => ⟨h.1, hQ _ _ h.2⟩
  | f + 1, _, _, _, h => ⟨fun h0 => hQ _ _ (h.1 h0), fun i hi => wpOpIn_weaken (fun a' w' h' => anyF_sound hQ f _ a' w' h'.2) (h.2 i hi)⟩
theorem AllF.set {listed : Array Bool} {w : World} {i : Nat} (h : AllF Bs listed w) : AllF Bs (listed.setIfInBounds i true) w := fun p hp hl => h p hp (by
  by_cases e : i = p.1
  · subst e
    rcases Nat.lt_or_ge p.1 listed.size with h' | h'
    · rw [Array.getD_eq_getD_getElem?, Array.getElem?_setIfInBounds_self_of_lt h'] at hl; cases hl
    · rw [Array.getD_eq_getD_getElem?, Array.getElem?_eq_none h']; rfl
  · rw [getD_set_ne false e] at hl; exact hl)
theorem anyF_first {i t : Nat} {oi : Oper} {v : Value} {B : World → Prop} (hF : ∀ f, F.fn f) (hi : ops[i]? = some oi) (hpl : plainB ops = true) (g : Nat) (hw : waitsB md ops g t i = true) (ht : ops.size ≤ t → False) (hB : (t, B) ∈ Bs) (hni : ∀ p ∈ Bs, p.1 ≠ i) :
    ∀ (f : Nat) (listed : Array Bool) (a : Act) (w : World), listed.size = ops.size → AllF Bs listed w → Closed md ops listed →
      (∀ j oj, ops[j]? = some oj → j ≠ i → listed.getD j true = false → (∀ e ∈ oj.after, Region.binds md e = true → e.on ≠ i) → oi.apart ops oj = true) →
      i ∈ Region.ready md ops listed → QuietB P ops B oi a v →
      anyF F n P md ops Bs Q f (listed.setIfInBounds i true) (a.put oi.dst v) w → anyF F n P md ops Bs Q (f + 1) listed a w := by
  obtain ⟨hsi, hdi⟩ := plainB_spec hpl i oi hi
  have key : ∀ (listed : Array Bool) (w : World), AllF Bs listed w → Closed md ops listed → i ∈ Region.ready md ops listed → B w := fun listed w ha hcl hr => ha (t, B) hB (by
    cases hl : listed.getD t false with
    | false => rfl
    | true =>
      cases ho : ops[t]? with
      | none => exact (ht (by simpa using ho)).elim
      | some ot =>
        have := waits_listed hcl g t ot ho (fun e he hb => hcl t ot ho hl e he hb) hw
        rw [getD_true_false (mem_ready.1 hr).1] at this
        cases this)
  intro f
  induction f with
  | zero =>
    intro listed a w hsz ha hcl _ hr hy H
    refine ⟨fun h => (by rw [h] at hr; cases hr), fun j hj => ?_⟩
    by_cases hji : j = i
    · subst hji; exact hy.op hF hi hdi (key _ _ ha hcl hr) ⟨ha.set, H⟩
    · have := ready_mono hj hji
      rw [H.1] at this
      cases this
  | succ f ih =>
    intro listed a w hsz ha hcl hfree hr hy H
    refine ⟨fun h => (by rw [h] at hr; cases hr), fun j hj => ?_⟩
    by_cases hji : j = i
    · subst hji; exact hy.op hF hi hdi (key _ _ ha hcl hr) ⟨ha.set, H⟩
    · have h1 := H.2 j (ready_mono hj hji)
      obtain ⟨hjun, oj, hoj, hall⟩ := mem_ready.1 hj
      obtain ⟨hsj, hdj⟩ := plainB_spec hpl j oj hoj
      have hnot : ∀ e ∈ oj.after, Region.binds md e = true → e.on ≠ i := fun e he hb heq => by
        have h1 := hall e he hb
        have h0 := (mem_ready.1 hr).1
        rw [heq, getD_true_false h0] at h1
        cases h1
      have h2 := wpOpIn_putB hF hoj (hfree j oj hoj hji hjun hnot) hsi hsj hdj hy h1
      have hfree' : ∀ k ok, ops[k]? = some ok → k ≠ i → (listed.setIfInBounds j true).getD k true = false →
          (∀ e ∈ ok.after, Region.binds md e = true → e.on ≠ i) → oi.apart ops ok = true := fun k ok hk hki hun hno => by
        refine hfree k ok hk hki ?_ hno
        by_cases hjk : j = k
        · subst hjk; exact hjun
        · rw [getD_set_ne true hjk] at hun; exact hun
      refine wpOpIn_weaken (fun a' w' h3 => ?_) h2
      have ha' : AllF Bs (listed.setIfInBounds j true) w' := fun p hp hl => h3.2.1 p hp (by
        rw [Array.setIfInBounds_comm _ _ (Ne.symm hji), getD_set_ne false (fun e => hni p hp e.symm)]; exact hl)
      refine ⟨ha', ih (listed.setIfInBounds j true) a' w' (by simpa using hsz) ha' (hcl.set hj) hfree' (ready_mono hr (Ne.symm hji)) h3.1 ?_⟩
      rw [Array.setIfInBounds_comm _ _ hji]
      exact h3.2.2

/-- The walk: (i, some t): quiet by the fact of t, taken first; (i, none): forced. -/
def wpMiy (F : Fence) (n : Nat) (P : Program) (ops : Array Oper) (Bs : List (Nat × (World → Prop))) (Q : Act → World → Prop) : List (Nat × Option Nat) → Array Bool → Act → World → Prop
  | [], _, a, w => Q a w
  | (i, some t) :: rest, listed, a, w => ∃ o, ops[i]? = some o ∧ ∃ v B, (t, B) ∈ Bs ∧ QuietB P ops B o a v ∧ wpMiy F n P ops Bs Q rest (listed.setIfInBounds i true) (a.put o.dst v) w
  | (i, none) :: rest, listed, a, w => ∃ o, ops[i]? = some o ∧ wpOpIn F n P ops noExit i (fun a' w' => AllF Bs (listed.setIfInBounds i true) w' ∧ wpMiy F n P ops Bs Q rest (listed.setIfInBounds i true) a' w') a w
def miyFrom (md : Region.Mode) (ops : Array Oper) (K : List Nat) : List (Nat × Option Nat) → Array Bool → Bool
  | [], listed => (Region.ready md ops listed).isEmpty
  | (i, some t) :: rest, listed => (Region.ready md ops listed).contains i && Region.free md ops listed i && waitsB md ops ops.size t i && decide (t < ops.size) && !K.contains i && miyFrom md ops K rest (listed.setIfInBounds i true)
  | (i, none) :: rest, listed => Region.ready md ops listed == [i] && miyFrom md ops K rest (listed.setIfInBounds i true)
theorem anyF_of_miy (hF : ∀ f, F.fn f) (hpl : plainB ops = true) : ∀ (l : List (Nat × Option Nat)) (listed : Array Bool) (a : Act) (w : World), listed.size = ops.size → AllF Bs listed w → Closed md ops listed → miyFrom md ops (Bs.map (·.1)) l listed = true → wpMiy F n P ops Bs Q l listed a w →
    anyF F n P md ops Bs Q l.length listed a w
  | [], _, _, _, _, _, _, hc, h => ⟨by simpa [miyFrom] using hc, h⟩
  | (i, some t) :: rest, listed, a, w, hsz, hB, hcl, hc, ⟨o, ho, v, B, hm, hq, h⟩ => by
    simp only [miyFrom, Bool.and_eq_true, decide_eq_true_eq, Bool.not_eq_true'] at hc
    obtain ⟨⟨⟨⟨⟨h1, h2⟩, h3⟩, h4⟩, h5⟩, h6⟩ := hc
    have hr : i ∈ Region.ready md ops listed := by simpa using h1
    exact anyF_first hF ho hpl ops.size h3 (fun h => by omega) hm (fun p hp e => by
      have : (Bs.map (·.1)).contains i = true := by simp only [List.contains_eq_mem, decide_eq_true_eq]; exact List.mem_map.2 ⟨p, hp, e⟩
      rw [h5] at this; cases this) rest.length listed a w hsz hB hcl (Region.free_spec ho h2) hr hq
      (anyF_of_miy hF hpl rest _ _ w (by simpa using hsz) hB.set (hcl.set hr) h6 h)
  | (i, none) :: rest, listed, a, w, hsz, hB, hcl, hc, ⟨o, ho, h⟩ => by
    simp only [miyFrom, Bool.and_eq_true, beq_iff_eq] at hc
    refine ⟨fun h0 => (by rw [h0] at hc; cases hc.1), fun j hj => ?_⟩
    have hr : i ∈ Region.ready md ops listed := by rw [hc.1]; simp
    rw [hc.1] at hj
    obtain rfl : j = i := by simpa using hj
    exact wpOpIn_weaken (fun a' w' h3 => ⟨h3.1, anyF_of_miy hF hpl rest _ a' w' (by simpa using hsz) h3.1 (hcl.set hr) hc.2 h3.2⟩) h
theorem wpIn_region_miy {id : Nat} {l : List Oper} {Q' : Exit → Act → World → Prop} {a : Act} {w : World} (Bs : List (Nat × (World → Prop))) (pi : List (Nat × Option Nat)) (hF : ∀ f, F.fn f) (hm : P.follows .mixedOrders = true)
    (hpl : plainB l.toArray = true) (hlen : pi.length = l.length) (hc : miyFrom .any l.toArray (Bs.map (·.1)) pi (Array.replicate l.length false) = true) (hB : ∀ p ∈ Bs, p.2 w.drew)
    (h : wpMiy F n P l.toArray Bs (fun a' w' => Q' .normal a' w') pi (Array.replicate l.length false) a w.drew) : (Code.region id l.toArray true).wpIn F n P Q' a w := by
  refine wpIn_region_any hm ?_
  have hcl : Closed .any l.toArray (Array.replicate l.length false) := fun j oj _ hl => by
    rcases Nat.lt_or_ge j l.length with h | h
    · simp [h] at hl
    · simp [h] at hl
  have := anyF_sound (Q' := Q') (fun _ _ h => h) _ _ _ _ (anyF_of_miy hF hpl pi (Array.replicate l.length false) a w.drew (by simp) (fun p hp _ => hB p hp) hcl hc h)
  rw [hlen] at this
  exact this
theorem miy_nil {listed : Array Bool} {a : Act} {w : World} (h : Q a w) : wpMiy F n P ops Bs Q [] listed a w := h
theorem miy_q {l : List Oper} {i t : Nat} {rest : List (Nat × Option Nat)} {listed : Array Bool} {o : Oper} {v : Value} {a : Act} {w : World} (B : World → Prop) (hm : (t, B) ∈ Bs) (ho : l[i]? = some o) (hg : Region.wanted o (yielded l.toArray a.tmps) = true) (hq : ∀ w, B w → (execOp a.eval o).run P w = .ok (.value v) w)
    (h : wpMiy F n P l.toArray Bs Q rest (listed.setIfInBounds i true) (a.put o.dst v) w) : wpMiy F n P l.toArray Bs Q ((i, some t) :: rest) listed a w := ⟨o, by simpa using ho, v, B, hm, Or.inl ⟨hg, hq⟩, h⟩
theorem miy_e {l : List Oper} {i : Nat} {rest : List (Nat × Option Nat)} {listed : Array Bool} {o : Oper} {a : Act} {w : World} (ho : l[i]? = some o) (hg : Region.wanted o (yielded l.toArray a.tmps) = true)
    (h : o.wpIn F n P a w (fun a' w' => AllF Bs (listed.setIfInBounds i true) w' ∧ wpMiy F n P l.toArray Bs Q rest (listed.setIfInBounds i true) a' w') noExit) : wpMiy F n P l.toArray Bs Q ((i, none) :: rest) listed a w :=
  have ho' : l.toArray[i]? = some o := by simpa using ho
  ⟨o, ho', by unfold wpOpIn; simp only [ho', hg, if_true]; exact h⟩
end
end Go.Proofs.Ytcieggaihelacaa
/- The contract of the program's Fetch where nothing is refused. -/
set_option linter.unusedSimpArgs false
set_option linter.unusedVariables false
namespace Go.Proofs.Ytcieggaihelacaa
open Go.RowKit Go.Shelf
attribute [local go_sem] Oper.semAt_some
theorem owns_mono {w : World} {base base' : Nat} {e : TypeId} {size : Nat} {v : Value} {n : Nat} {xs : List Value} (h : w.ownsRow base e size v n xs) (hb : base' ≤ base) : w.ownsRow base' e size v n xs := by
  obtain ⟨h1, h2⟩ := h
  refine ⟨h1, ?_⟩
  rcases h2 with h2 | ⟨g, cap, cur, hv, hg, r⟩
  · exact Or.inl h2
  · exact Or.inr ⟨g, cap, cur, hv, Nat.le_trans hb hg, r⟩
theorem wpIn_name {F : Fence} {n : Nat} {P : Program} {c : Code} {Q : Exit → Act → World → Prop} {a : Act} {w : World} (h : ∀ tm, tm = a.tmps → c.wpIn F n P Q { tmps := tm, defers := a.defers } w) : c.wpIn F n P Q a w := h a.tmps rfl
theorem planes_ix0 (a0 a1 a2 a3 a4 a5 a6 a7 a8 : Value) (w : World) : (Instr.index 82 (.agg #[a0, a1, a2, a3, a4, a5, a6, a7, a8]) (.int .i64 0)).run Try.prog w = .ok (.agg #[a0, a1, a2]) w := by kernel_rfl
theorem planes_ix1 (a0 a1 a2 a3 a4 a5 a6 a7 a8 : Value) (w : World) : (Instr.index 82 (.agg #[a0, a1, a2, a3, a4, a5, a6, a7, a8]) (.int .i64 1)).run Try.prog w = .ok (.agg #[a3, a4, a5]) w := by kernel_rfl
theorem planes_ix2 (a0 a1 a2 a3 a4 a5 a6 a7 a8 : Value) (w : World) : (Instr.index 82 (.agg #[a0, a1, a2, a3, a4, a5, a6, a7, a8]) (.int .i64 2)).run Try.prog w = .ok (.agg #[a6, a7, a8]) w := by kernel_rfl
attribute [local go_sem high] planes_ix0 planes_ix1 planes_ix2

set_option maxRecDepth 100000 in
set_option maxHeartbeats 8000000 in
theorem fetch_l (f g a b x y : Int) (v : Value) (xs : List Int) (w : World) (h : Rd .u8 w v xs) (ha : -9223372036854775808 ≤ a) (ha2 : a ≤ 9223372036854775807)
    (hc : cornE f g a = 0) (hlen : (xs.length : Int) = bytesS f) (hb1 : 1 ≤ b ∧ b ≤ 6) (hfit : fitsE f g a x y = 0) (hbb : b ≤ 4) :
    Calls Try.prog 23 #[v, .agg #[.int .i64 f, .int .i64 g, .int .i64 a], .int .i64 b, .int .i64 x, .int .i64 y] w fun e w' => (∃ r, e = .returned (.tuple #[r, .int .i64 0]) ∧ w'.ownsRow w.heap.size 5 1 r 64 (((List.range 64).map (fun k => xs[(fetI f g a b x y k).toNat]?.getD 0)).map (Value.int .u8))) ∧ Below w.heap.size w w' := by
  refine (callsIn_wide (n := 0)).1 ?_
  have hwf : ∀ f, Fence.wide.fn f := fun _ => trivial
  have hwd : Fence.wide.depth = none := rfl
  obtain ⟨hf, hg, ha3, hX, hY⟩ := corn_ok hc
  obtain ⟨x0, x1, y0, y1⟩ := corner_bd hf hg ha3
  have hft : (-15 ≤ x ∧ x ≤ 15 ∧ -15 ≤ y ∧ y ≤ 15) ∧ (0 ≤ cornerX f g a + x ∧ cornerX f g a + x + 16 ≤ wideS f ∧ 0 ≤ cornerY g a + y ∧ cornerY g a + y + 16 ≤ highS f) := by
    rcases fits_cases f g a x y with ⟨h1, _⟩ | ⟨_, _, h1⟩ | ⟨_, _, _, h1⟩ | ⟨_, h1, h2, _⟩
    · exact absurd hc h1
    · rw [hfit] at h1; cases h1
    · rw [hfit] at h1; cases h1
    · exact ⟨h1, h2⟩
  obtain ⟨W, hW⟩ : ∃ W, wideS f = W := ⟨_, rfl⟩
  obtain ⟨H, hH⟩ : ∃ H, highS f = H := ⟨_, rfl⟩
  obtain ⟨N, hN⟩ : ∃ N : Nat, W * H = N := ⟨(W * H).toNat, by rw [← hW, ← hH]; rcases hf with rfl | rfl <;> decide⟩
  have hNx : xs.length = N + N / 4 + N / 4 ∧ 4 ≤ N ∧ N ≤ 1000000 ∧ 0 ≤ W ∧ W ≤ 352 ∧ 0 ≤ H ∧ H ≤ 288 ∧ W / 2 * 2 = W ∧ H / 2 * 2 = H ∧ (N : Int) / 4 = W / 2 * (H / 2) := by
    rw [← hW, ← hH] at hN
    rw [← hW, ← hH]
    clear hft hfit x0 x1 y0 y1
    rcases hf with rfl | rfl
    · have e : (176 : Int) * 144 = 25344 := rfl
      have e1 : wideS 0 = 176 := rfl
      have e2 : highS 0 = 144 := rfl
      have e3 : bytesS 0 = 38016 := rfl
      rw [e1, e2] at hN
      rw [e1, e2]
      rw [e3] at hlen
      omega
    · have e1 : wideS 1 = 352 := rfl
      have e2 : highS 1 = 288 := rfl
      have e3 : bytesS 1 = 152064 := rfl
      rw [e1, e2] at hN
      rw [e1, e2]
      rw [e3] at hlen
      omega
  obtain ⟨n1, n2, n3, n4, n5, n6, n7, n8, n9, n10⟩ := hNx
  have hrl := h.len
  have hrd := h
  obtain ⟨vb, voff, cap, rfl, hvb, hvc, hvh⟩ := h.solid (by omega)
  clear hvh h
  obtain ⟨X, eX⟩ : ∃ X, cornerX f g a = X := ⟨_, rfl⟩
  obtain ⟨Y, eY⟩ : ∃ Y, cornerY g a = Y := ⟨_, rfl⟩
  rw [eX, hW] at x1
  rw [eY, hH] at y1
  rw [eX] at x0 hX
  rw [eY] at y0 hY
  rw [eX, eY, hW, hH] at hft
  have HC := Lib.hid (And.intro hX (And.intro hY hc))
  have HS := Lib.hid (And.intro hW (And.intro hH hlen.symm))
  have HF := Lib.hid hfit
  have HE := Lib.hid (And.intro eX (And.intro eY hf))
  have HR := Lib.hid hrd
  obtain ⟨n, hn⟩ : ∃ n, xs.length = n := ⟨_, rfl⟩
  rw [hn] at n1 hrl hvc
  have HN := Lib.hid hn
  have hB0 := (((Below.refl w.heap.size w).alloc (Nat.le_refl _) (Obj.cells #[.int .i64 f, .int .i64 g, .int .i64 a] 23)).alloc (by simp) (Obj.cells #[.int .i64 x] 3)).alloc (by simp <;> omega) (Obj.cells #[.int .i64 y] 3)
  have hL0 := (((Lies.nil w).alloc (Obj.cells #[.int .i64 f, .int .i64 g, .int .i64 a] 23)).alloc (Obj.cells #[.int .i64 x] 3)).alloc (Obj.cells #[.int .i64 y] 3)
  simp only [World.size_alloc] at hL0
  have HL0 := Lib.hid hL0
  have HB0 := Lib.hid hB0
  have k0 := HL0.out.tail.tail.head
  have c0 := blk_cell k0 0
  have c1 := blk_cell k0 1
  have c2 := blk_cell k0 2
  simp only [List.getElem?_toArray, List.getElem?_cons_zero, List.getElem?_cons_succ] at c0 c1 c2
  have hsl : (wideS f, highS f, bytesS f) = (W, H, (n : Int)) := by rw [hW, hH, ← hlen, hn]
  have HS2 := Lib.hid hsl
  have HNF := Lib.hid (And.intro n1 (And.intro n8 (And.intro n9 (And.intro n10 hN))))
  have n11 : N + N / 4 ≤ n ∧ n ≤ N + N := by omega
  rw [hn]
  clear hL0 hB0 k0 n1 n8 n9 n10 hN hc hX hY hlen hfit hW hH eX eY hf hrd hg ha3 hn hsl
  have hmx : max 0 (b - 4) = 0 := by omega
  (refine callsIn_of_wp_marks Try.func23 rfl trivial ?_ rfl; simp only [Try.ntmps23, List.size_toArray, List.length_cons, List.length_nil, Nat.reduceAdd, Nat.reduceSub, Array.replicate_succ, Array.replicate_zero, List.push_toArray, List.append_toArray, List.nil_append, List.cons_append])
  gi_wp2
  refine wpIn_scope ?_
  gi_wp2_with (first
    | (gi_at_call 46; refine (callsIn_wide.2 (Corner_any _ _ _ _ ha ha2)).mono ?_; rw [HC.out.1, HC.out.2.1, HC.out.2.2]; rintro e w1 ⟨rfl, hb'⟩; have hw1 := Nat.le_trans HB0.out.size hb'.size; have hw13 := hb'.size; simp only [World.size_alloc] at hw13; have hL := HL0.out.next hb'; have hB := below_nxt HB0.out hb'; clear hb' c0 c1 c2; have hB2 := hB.alloc hB.size (Obj.cells #[.int .i64 X] 3); have hB3 := hB2.alloc hB2.size (Obj.cells #[.int .i64 Y] 3); have hL3 := (hL.alloc (Obj.cells #[.int .i64 X] 3)).alloc (Obj.cells #[.int .i64 Y] 3); simp only [World.size_alloc] at hL3; have k0 := hL3.tail.tail.tail.tail.head; have c0 := blk_cell k0 0; have c1 := blk_cell k0 1; have c2 := blk_cell k0 2; have c8 := blk_cell hL3.tail.tail.tail.head 0; have c9 := blk_cell hL3.tail.tail.head 0; simp only [List.getElem?_toArray, List.getElem?_cons_zero, List.getElem?_cons_succ] at c0 c1 c2 c8 c9; have HL := Lib.hid hL3; have HB := Lib.hid hB3; clear hL hB hB2 hB3 hL3 k0)
    | (gi_at_call 37; refine (callsIn_wide.2 (size_any _ _)).mono ?_; rw [(Prod.mk.inj HS2.out).1, (Prod.mk.inj (Prod.mk.inj HS2.out).2).1, (Prod.mk.inj (Prod.mk.inj HS2.out).2).2]; rintro e w' ⟨rfl, rfl⟩)
    | (gi_at_call 26; refine (callsIn_wide.2 (fits_any _ _ _ _ _ _ ha ha2 (by omega) (by omega) (by omega) (by omega))).mono ?_; rw [HF.out]; rintro e w2 ⟨rfl, hb2⟩; have hw2 := hb2.size; simp only [World.size_alloc] at hw2)
    | (gi_at_call 74; refine (callsIn_wide.2 (planes_any _ _ _ _ _ _ N _ HNF.out.2.2.2.2 HNF.out.1 (by omega) n2 n3 n4 (by omega) n6 (by omega))).mono ?_; rintro e w3 ⟨rfl, hb3⟩; have hw3 := hb3.size))
  obtain ⟨V, hV⟩ : ∃ V, (w3.alloc (Obj.cells #[.slice (some ⟨vb, voff, none⟩) N cap, .int .i64 W, .int .i64 H] 81)).drew = V := ⟨_, rfl⟩
  have hL5 : Lies [(w3.heap.size, Obj.cells #[.slice (some ⟨vb, voff, none⟩) N cap, .int .i64 W, .int .i64 H] 81), (w1.heap.size + 1, Obj.cells #[.int .i64 Y] 3), (w1.heap.size, Obj.cells #[.int .i64 X] 3), (w.heap.size + 1 + 1, Obj.cells #[.int .i64 y] 3), (w.heap.size + 1, Obj.cells #[.int .i64 x] 3), (w.heap.size, Obj.cells #[.int .i64 f, .int .i64 g, .int .i64 a] 23)] V := by
    rw [← hV]
    exact (((HL.out.next hb2).next hb3).alloc _).next (grown_below (grown_drew _ none))
  have hB5 : Below w.heap.size w V := by
    rw [← hV]
    have h3 := below_nxt (below_nxt HB.out hb2) hb3
    exact below_nxt (h3.alloc h3.size _) (grown_below (grown_drew _ none))
  have hd : X + (b - 1) % 2 * 8 + x + 7 < W := by omega
  have d12 := blk_cell hL5.tail.tail.head 0
  have d13 := blk_cell hL5.tail.head 0
  have f12 := blk_free hL5.tail.tail.head 0
  have f13 := blk_free hL5.tail.head 0
  simp only [List.getElem?_toArray, List.getElem?_cons_zero, List.getElem?_cons_succ] at d12 d13
  have HL5 := Lib.hid hL5
  have HB5 := Lib.hid hB5
  clear hL5 hB5
  refine wpIn_region_miy [(12, fun w' => w'.cell? ⟨w1.heap.size, 0, none⟩ = some (.int .i64 X)), (13, fun w' => w'.cell? ⟨w1.heap.size + 1, 0, none⟩ = some (.int .i64 Y))] [(0, some 12), (1, some 12), (2, some 12), (3, some 12), (4, some 12), (5, some 12), (6, some 13), (7, some 13), (8, some 13), (9, some 13), (10, some 13), (11, some 13), (12, none), (13, none)] hwf (by kernel_rfl) (by kernel_rfl) rfl (by kernel_rfl) ?hB ?_
  case hB =>
    rw [hV]
    intro p hp
    simp only [List.mem_cons, List.not_mem_nil, or_false] at hp
    rcases hp with rfl | rfl
    · exact d12
    · exact d13
  rw [hV]
  clear hV
  iterate 6 (refine miy_q _ (List.Mem.head _) rfl rfl (fun w' hB => by (try dsimp only at hB); go_simp; rfl) ?_; simp only [Act.put, List.setIfInBounds_toArray, List.set_cons_succ, List.set_cons_zero])
  simp (disch := omega) only [w64, tmod_in, tdiv_in]
  iterate 6 (refine miy_q _ (List.Mem.tail _ (List.Mem.head _)) rfl rfl (fun w' hB => by (try dsimp only at hB); go_simp; rfl) ?_; simp only [Act.put, List.setIfInBounds_toArray, List.set_cons_succ, List.set_cons_zero])
  simp (disch := omega) only [w64, tmod_in, tdiv_in]
  refine miy_e rfl rfl ?_
  go_simp
  refine ⟨?fa, ?_⟩
  case fa =>
    rintro p hp hl
    simp only [List.mem_cons, List.not_mem_nil, or_false] at hp
    rcases hp with rfl | rfl
    · exact absurd (show true = false from hl) (by decide)
    · show (V.setCell _ _).cell? _ = _
      rw [World.cell?_setCell_other]
      · exact d13
      · simp
  refine miy_e rfl rfl ?_
  go_simp
  refine ⟨?fb, ?_⟩
  case fb =>
    rintro p hp hl
    simp only [List.mem_cons, List.not_mem_nil, or_false] at hp
    rcases hp with rfl | rfl
    · exact absurd (show true = false from hl) (by decide)
    · exact absurd (show true = false from hl) (by decide)
  refine miy_nil ?_
  obtain ⟨A, hA⟩ : ∃ A, X + (b - 1) % 2 * 8 = A := ⟨_, rfl⟩
  obtain ⟨D, hD⟩ : ∃ D, Y + (b - 1) / 2 * 8 = D := ⟨_, rfl⟩
  rw [hA, hD]
  have g12 := blk_kept (blk_set HL5.out.tail.tail.head 0 (.int .i64 A)) (grown_set _ ⟨w1.heap.size + 1, 0, none⟩ (.int .i64 D)) (by simp)
  have g13 := blk_set (blk_kept HL5.out.tail.head (grown_set _ ⟨w1.heap.size, 0, none⟩ (.int .i64 A)) (by simp)) 0 (.int .i64 D)
  have hsz1 := HB0.out.size
  simp only [World.size_alloc] at hsz1
  have hB6 : Below w.heap.size w ((V.setCell ⟨w1.heap.size, 0, none⟩ (.int .i64 A)).setCell ⟨w1.heap.size + 1, 0, none⟩ (.int .i64 D)) := (HB5.out.setCell (p := ⟨w1.heap.size, 0, none⟩) hw1 _).setCell (p := ⟨w1.heap.size + 1, 0, none⟩) (Nat.le_succ_of_le hw1) _
  have o6 : ∀ (k : Nat) (o : Obj), V.heap[k]? = some o → k ≠ w1.heap.size → k ≠ w1.heap.size + 1 → ((V.setCell ⟨w1.heap.size, 0, none⟩ (.int .i64 A)).setCell ⟨w1.heap.size + 1, 0, none⟩ (.int .i64 D)).heap[k]? = some o := fun k o h1 h2 h3 => blk_kept (blk_kept h1 (grown_set _ _ _) (by simpa using h2)) (grown_set _ _ _) (by simpa using h3)
  have g8 := o6 _ _ HL5.out.tail.tail.tail.tail.head (by simp <;> omega) (by simp <;> omega)
  have g9 := o6 _ _ HL5.out.tail.tail.tail.head (by simp <;> omega) (by simp <;> omega)
  have g20 := o6 _ _ HL5.out.head (by simp <;> omega) (by simp <;> omega)
  generalize (V.setCell ⟨w1.heap.size, 0, none⟩ (.int .i64 A)).setCell ⟨w1.heap.size + 1, 0, none⟩ (.int .i64 D) = Z at *
  have hW0 := n4
  have PF := Lib.hid (show Rd .u8 w (.slice (some ⟨vb, voff, none⟩) N cap) (xs.take N) ∧ (xs.take N).length = N ∧ W * H = N ∧ ∀ k u : Nat, k < 8 → u < 8 → ∀ kk : Nat, (D + y + (k : Int)) * W + (A + x + (u : Int)) = kk → kk < N → (xs.take N)[kk]?.getD 0 = xs[(fetI f g a b x y (8 * k + u)).toNat]?.getD 0 from by
    refine ⟨?_, by rw [List.length_take, HN.out]; omega, HNF.out.2.2.2.2, ?_⟩
    · have := HR.out.sub 0 N cap (by rw [HN.out]; omega) (by omega)
      rwa [Nat.add_zero, List.drop_zero] at this
    · intro k u hk hu kk hkk hkN
      have e : fetI f g a b x y (8 * k + u) = kk := by
        rw [← hkk]
        unfold fetI plcV plcS sxS
        rw [HE.out.1, HE.out.2.1, HS.out.1, if_pos hbb, if_pos hbb, if_neg (by omega), if_neg (by omega), hD, show (((8 * k + u : Nat) : Int) / 8) = k by omega, show (((8 * k + u : Nat) : Int) % 8) = u by omega, show D + y + (k : Int) = D + ((k : Int) + y) by omega, Int.add_mul D]
        omega
      rw [e, Int.toNat_natCast, List.getElem?_take, if_pos hkN])
  generalize xs.take N = ps at *
  have c12 := blk_cell g12 0
  have G12 := Lib.hid g12
  have G13 := Lib.hid g13
  have G8 := Lib.hid g8
  have G9 := Lib.hid g9
  have G20 := Lib.hid g20
  have HB6 := Lib.hid hB6
  clear g12 g13 g8 g9 g20 hB6 o6 c12 d12 d13 f12 f13 c0 c1 c2 c8 c9
  gi_wp2
  refine wpIn_label ?_
  gi_wp2_with (gi_at_call 75; refine (callsIn_wide.2 (rows_any _)).mono ?_; rintro e w' ⟨rfl, rfl⟩)
  have hZ : w.heap.size ≤ Z.heap.size := HB6.out.size
  obtain ⟨Z1, hZ1⟩ : ∃ Z1, Z.alloc (Obj.cells #[.slice none 0 0] 24) = Z1 := ⟨_, rfl⟩
  have zg := World.grownBy_alloc Z (Obj.cells #[.slice none 0 0] 24) none
  have zo := World.alloc_heap_new Z (Obj.cells #[.slice none 0 0] 24)
  have zs : Z1.heap.size = Z.heap.size + 1 := by rw [← hZ1]; simp
  rw [hZ1] at zg zo
  have zb : Below w.heap.size w Z1 := below_nxt HB6.out (grown_below zg)
  have zl : Lies [(w3.heap.size, Obj.cells #[.slice (some ⟨vb, voff, none⟩) N cap, .int .i64 W, .int .i64 H] 81), (w1.heap.size + 1, Obj.cells #[.int .i64 D] 3), (w1.heap.size, Obj.cells #[.int .i64 A] 3), (w.heap.size + 1 + 1, Obj.cells #[.int .i64 y] 3), (w.heap.size + 1, Obj.cells #[.int .i64 x] 3)] Z :=
    (((((Lies.nil Z).cons (p := (w.heap.size + 1, Obj.cells #[.int .i64 x] 3)) G8.out).cons (p := (w.heap.size + 1 + 1, Obj.cells #[.int .i64 y] 3)) G9.out).cons (p := (w1.heap.size, Obj.cells #[.int .i64 A] 3)) G12.out).cons (p := (w1.heap.size + 1, Obj.cells #[.int .i64 D] 3)) G13.out).cons (p := (w3.heap.size, Obj.cells #[.slice (some ⟨vb, voff, none⟩) N cap, .int .i64 W, .int .i64 H] 81)) G20.out
  have zl1 := zl.next (grown_below zg)
  obtain ⟨Bx, hBx⟩ : ∃ Bx : List (Nat × Obj), [(w3.heap.size, Obj.cells #[.slice (some ⟨vb, voff, none⟩) N cap, .int .i64 W, .int .i64 H] 81), (w1.heap.size + 1, Obj.cells #[.int .i64 D] 3), (w1.heap.size, Obj.cells #[.int .i64 A] 3), (w.heap.size + 1 + 1, Obj.cells #[.int .i64 y] 3), (w.heap.size + 1, Obj.cells #[.int .i64 x] 3)] = Bx := ⟨_, rfl⟩
  have hBl : ∀ p ∈ Bx, p.1 < Z.heap.size ∧ p.2.isCells = true := by
    rw [← hBx]
    intro p hp
    refine ⟨blk_lt (zl p hp), ?_⟩
    simp only [List.mem_cons, List.not_mem_nil, or_false] at hp
    rcases hp with rfl | rfl | rfl | rfl | rfl <;> rfl
  rw [hBx] at zl1
  have HBX := Lib.hid hBx
  have HZ1 := Lib.hid (And.intro zb (And.intro zo zl1))
  have hw3Z : w3.heap.size < Z.heap.size := blk_lt G20.out
  rw [hZ1]
  clear hZ1 zg zo zb zl zl1 hBx
  obtain ⟨L, hL⟩ : ∃ L : List Int, (List.range 64).map (fun k => xs[(fetI f g a b x y k).toNat]?.getD 0) = L := ⟨_, rfl⟩
  have hLl : L.length = 64 := by rw [← hL]; simp
  have HLL := Lib.hid hL
  refine wpIn_name (fun tm htm => ?_)
  have HTM := Lib.hid htm
  clear htm hL
  dsimp only
  obtain ⟨I, hI⟩ : ∃ I : Nat → World → Prop, I = fun m U => ∃ r, U.heap[Z.heap.size]? = some (.cells #[r] 24 (0, 0)) ∧ U.ownsRow (Z.heap.size + 1) 5 1 r m ((L.take m).map (Value.int .u8)) ∧ Lies Bx U ∧ Below w.heap.size w U := ⟨_, rfl⟩
  have HI := Lib.hid hI
  have hIA : ∀ m, Ab Z1.heap.size (fun _ => False) (fun _ U => I m U) := fun m => by
    rw [HI.out]
    refine Ab.ex (fun r => ?_)
    refine (Ab.blk (b := fun _ => Z.heap.size) (o := fun _ => .cells #[r] 24 (0, 0)) (fun _ => rfl) (fun _ h => h)).and ((Ab.owns (fun _ => m) (fun _ => (L.take m).map (Value.int .u8)) (fun _ h => h)).and (Ab.and ?_ (Ab.below (Nat.le_refl _) (by omega) (fun _ h => h.elim))))
    intro k W W' row hj hg hr p hp
    exact blk_kept (hj p hp) hg (fun e => by
      rcases hr _ e.symm with h | ⟨_, o, h1, h2⟩
      · exact h
      · rw [hj p hp] at h1; cases h1; rw [(hBl p hp).2] at h2; cases h2)
  have hI0 : I 0 Z1 := by
    rw [HI.out]
    exact ⟨_, HZ1.out.2.1, World.ownsRow_nil _ _ _ _, HZ1.out.2.2, HZ1.out.1⟩
  clear hI
  have hev : (Act.mk tm []).eval (.tmp 95) = .func (.func 95) #[] #[] := by rw [HTM.out]; rfl
  refine range_outer (gf := 95) (lb := #[]) hev (enters_of Try.func95 (by kernel_rfl) rfl)
    (rows_seq (fun k => Z.heap.size ≤ k) (fun _ => False) Z1) (Below.refl _ _) (fun k x hx => by obtain ⟨_, rfl⟩ := rowsA_inv hx; rfl) (fun _ h => h.elim)
    (fun k U => I (8 * k) U) (fun c k U => False) (fun k W W' row hj hg hr => hIA _ k W W' row hj hg hr) (fun _ => Ab.never _ _) hI0
    (fun k a' U => a' = { tmps := (tm.setIfInBounds 96 (.int .i64 k)).setIfInBounds 22 (.int .i64 k), defers := [] } ∧ I (8 * k) U) ?hAft ?assign ?body ?done ?stop
  case hAft =>
    rintro k a' j U U' row ⟨h1, h2⟩ hg hr
    exact ⟨h1, hIA _ k U U' row h2 hg hr⟩
  case assign =>
    rintro l' k x U hx hi
    obtain ⟨hk8, rfl⟩ := rowsA_inv hx
    rw [HTM.out]
    gi_wp2
    exact ⟨KB.refl _ _ _, hi⟩
  case done =>
    rintro U hi hD
    rw [HI.out, rowsA_len] at hi
    obtain ⟨r, ho, hown, _, hbel⟩ := hi
    have HO := Lib.hid ho
    have HW := Lib.hid hown
    have HBL := Lib.hid hbel
    rw [zs] at hD
    have HD := Lib.hid hD
    have c21 := blk_cell ho 0
    simp only [List.getElem?_toArray, List.getElem?_cons_zero] at c21
    clear ho hown hbel hD
    rw [HTM.out]
    gi_wp2
    refine ⟨by simp, .inl ⟨_, _, rfl, run_takeDeferred HD.out, ?_⟩⟩
    have hp := grownBy_putObj' U (Z.heap.size + 1) (.deferred none)
    refine ⟨_, by simp [results, Try.results23, go_sem], ⟨r, rfl, ?_⟩, HBL.out.grown hp (by have := HBL.out.size; omega) (fun j e => by cases e; omega)⟩
    have h1 := owns_mono HW.out (show w.heap.size ≤ Z.heap.size + 1 by omega)
    have hLt : (L.take 64) = L := List.take_of_length_le (by omega)
    rw [hLt] at h1
    rw [HLL.out]
    exact h1.kept hp (by
      by_cases hn : r.ownBlock = none
      · exact .inl hn
      · refine .inr (fun e => ?_)
        obtain ⟨o, h3, h4⟩ := owns_cells HW.out e
        rw [HD.out] at h3; cases h3; cases h4)
  case stop =>
    rintro c k U _ _ h _
    exact h.elim
  case body =>
    rintro l' k x a' U hx hl hr ⟨rfl, hi⟩
    obtain ⟨hk8, rfl⟩ := rowsA_inv hx
    have HI8 := Lib.hid hi
    clear hi hx hr
    rw [HTM.out]
    gi_wp2
    gi_loopw [97] (fun i wr => ∃ u : Nat, u ≤ 8 ∧ i = .int .i64 u ∧ I (8 * k + u) wr ∧ KB (fun j => Z.heap.size ≤ j) Z1.heap.size U wr) (fun i _ => 10 - (intOf i).toNat)
    case atStart => exact ⟨0, by omega, rfl, HI8.out, KB.refl _ _ _⟩
    case round =>
      obtain ⟨u, hu, rfl, hiu, hkb⟩ := hrel
      have HIU := Lib.hid hiu
      have HKB := Lib.hid hkb
      rw [HI.out] at hiu
      obtain ⟨r, ho, hown, hbx, hbel⟩ := hiu
      have HO := Lib.hid ho
      have HW := Lib.hid hown
      have HX := Lib.hid hbx
      have HBL := Lib.hid hbel
      rw [← HBX.out] at hbx
      have HX5 := Lib.hid hbx
      clear ho hown hbx hbel hkb
      by_cases hlt : u < 8
      · have hul : (u : Int) < 8 := by omega
        have c20 := blk_cell HX5.out.head 0
        have c21 := blk_cell HX5.out.head 1
        have c22 := blk_cell HX5.out.head 2
        have c13 := blk_cell HX5.out.tail.head 0
        have c12 := blk_cell HX5.out.tail.tail.head 0
        have c9 := blk_cell HX5.out.tail.tail.tail.head 0
        have c8 := blk_cell HX5.out.tail.tail.tail.tail.head 0
        simp only [List.getElem?_toArray, List.getElem?_cons_zero, List.getElem?_cons_succ] at c20 c21 c22 c13 c12 c9 c8
        have hin : decide (0 ≤ A + x + (u : Int) ∧ A + x + (u : Int) < W ∧ 0 ≤ D + y + (k : Int) ∧ D + y + (k : Int) < H) = true := by simp only [decide_eq_true_eq]; omega
        gi_wp2_with (gi_at_call 76; refine (callsIn_wide.2 (in_any _ _ _ _ _ _)).mono ?_; rw [hin]; rintro e w4 ⟨rfl, hb4⟩)
        have q1 : (D + y + (k : Int)) * W ≤ (H - 1) * W := Int.mul_le_mul_of_nonneg_right (by omega) hW0
        have q2 : (H - 1) * W = W * H - W := by rw [Int.sub_mul, Int.one_mul, Int.mul_comm]
        have q3 : 0 ≤ (D + y + (k : Int)) * W := Int.mul_nonneg (by omega) hW0
        have q4 := PF.out.2.2.1
        obtain ⟨kk, hkk, hkN⟩ : ∃ kk : Nat, (D + y + (k : Int)) * W + (A + x + (u : Int)) = kk ∧ kk < N := ⟨((D + y + (k : Int)) * W + (A + x + (u : Int))).toNat, by omega, by omega⟩
        have hval : ps[kk]?.getD 0 = L[8 * k + u]?.getD 0 := by
          rw [← HLL.out, List.getElem?_map, List.getElem?_range (by omega), Option.map_some, Option.getD_some]
          exact PF.out.2.2.2 k u hk8 hlt kk hkk hkN
        have rdp := PF.out.1
        have hln := PF.out.2.1
        have HQ := Lib.hid (And.intro hkk (And.intro hval (And.intro rdp hln)))
        clear q1 q2 q3 q4 hkk hval rdp hln hin c20 c21 c22 c13 c12 c9 c8
        obtain ⟨V4, hV4⟩ : ∃ V4, w4.drew = V4 := ⟨_, rfl⟩
        have hg4 : wr.grownBy V4 none := by rw [← hV4]; exact (below_grown hb4 none).trans (grown_drew _ none)
        have o4 := blk_kept HO.out hg4 (by simp)
        have x4 := HX5.out.next (grown_below hg4)
        have d20 := blk_cell x4.head 0
        have d21 := blk_cell x4.head 1
        have d22 := blk_cell x4.head 2
        have d13 := blk_cell x4.tail.head 0
        have d12 := blk_cell x4.tail.tail.head 0
        have d9 := blk_cell x4.tail.tail.tail.head 0
        have d8 := blk_cell x4.tail.tail.tail.tail.head 0
        have dr := blk_cell o4 0
        simp only [List.getElem?_toArray, List.getElem?_cons_zero, List.getElem?_cons_succ] at d20 d21 d22 d13 d12 d9 d8 dr
        have HG4 := Lib.hid hg4
        have HO4 := Lib.hid o4
        clear hg4 o4 x4 hb4
        refine wpIn_region_miy [(12, fun w' => w'.cell? ⟨w3.heap.size, 0, none⟩ = some (.slice (some ⟨vb, voff, none⟩) N cap) ∧ w'.cell? ⟨w3.heap.size, 1, none⟩ = some (.int .i64 W) ∧ w'.cell? ⟨w3.heap.size, 2, none⟩ = some (.int .i64 H) ∧ w'.cell? ⟨w1.heap.size, 0, none⟩ = some (.int .i64 A) ∧ w'.cell? ⟨w.heap.size + 1, 0, none⟩ = some (.int .i64 x) ∧ w'.cell? ⟨w1.heap.size + 1, 0, none⟩ = some (.int .i64 D) ∧ w'.cell? ⟨w.heap.size + 1 + 1, 0, none⟩ = some (.int .i64 y)), (14, fun w' => w'.cell? ⟨Z.heap.size, 0, none⟩ = some r)]
          [(0, some 14), (1, some 12), (2, some 12), (3, some 12), (4, some 12), (5, some 12), (6, some 12), (7, some 12), (8, some 12), (9, some 12), (10, some 12), (11, some 12), (12, none), (13, none), (14, none), (15, none)] (fun _ => trivial) (by kernel_rfl) (by kernel_rfl) rfl (by kernel_rfl) ?hB ?_
        case hB =>
          rw [hV4]
          intro p hp
          simp only [List.mem_cons, List.not_mem_nil, or_false] at hp
          rcases hp with rfl | rfl
          · exact ⟨d20, d21, d22, d12, d8, d13, d9⟩
          · exact dr
        rw [hV4]
        clear hV4 d20 d21 d22 d13 d12 d9 d8 dr
        refine miy_q _ (List.Mem.tail _ (List.Mem.head _)) rfl rfl (fun w' hB => by (try dsimp only at hB); go_simp; rfl) ?_; simp only [Act.put, List.setIfInBounds_toArray, List.set_cons_succ, List.set_cons_zero]
        iterate 11 (refine miy_q _ (List.Mem.head _) rfl rfl (fun w' hB => by (try dsimp only at hB); obtain ⟨e0, e1, e2, e3, e4, e5, e6⟩ := hB; go_simp; rfl) ?_; simp only [Act.put, List.setIfInBounds_toArray, List.set_cons_succ, List.set_cons_zero])
        simp (disch := omega) only [w64, tmod_in, tdiv_in]
        refine miy_e rfl rfl ?_
        go_simp
        have hrd4 : Rd .u8 V4 (.slice (some ⟨vb, voff, none⟩) N cap) ps := HQ.out.2.2.1.below (below_nxt HBL.out (grown_below HG4.out))
        have hat := at_any (.slice (some ⟨vb, voff, none⟩) N cap) ps W H (A + x + (u : Int)) (D + y + (k : Int)) kk V4 hrd4 (by rw [HQ.out.2.2.2]; exact hkN) HQ.out.1 hW0 (by omega) (by omega) (by omega) (by omega) (by omega)
        rw [HQ.out.2.1] at hat
        refine (callsIn_wide.2 hat).mono ?_
        clear hat hrd4
        rintro e w5 ⟨rfl, hb5⟩
        generalize hel : L[8 * k + u]?.getD 0 = el at *
        have hg5 : wr.grownBy w5 none := HG4.out.trans (below_grown hb5 none)
        have o5 := blk_kept HO.out hg5 (by simp)
        have HG5 := Lib.hid hg5
        have HO5 := Lib.hid o5
        have HEL := Lib.hid hel
        clear hb5 hg5 o5 hel
        refine ⟨?fa, ?_⟩
        case fa =>
          rintro p hp hl
          simp only [List.mem_cons, List.not_mem_nil, or_false] at hp
          rcases hp with rfl | rfl
          · exact absurd (show true = false from hl) (by decide)
          · exact blk_cell HO5.out 0
        refine miy_e rfl rfl ?_
        go_simp
        have hg6 := World.grownBy_alloc w5 (Obj.cells #[.int .u8 el] 5) none
        have o6 := blk_kept HO5.out hg6 (by simp)
        have c6 := cell_alloc1 w5 (.int .u8 el) 5
        have HG6 := Lib.hid (HG5.out.trans hg6)
        have HO6 := Lib.hid o6
        refine ⟨?fa, ?_⟩
        case fa =>
          rintro p hp hl
          simp only [List.mem_cons, List.not_mem_nil, or_false] at hp
          rcases hp with rfl | rfl
          · exact absurd (show true = false from hl) (by decide)
          · exact blk_cell HO6.out 0
        have hown6 := HW.out.kept HG6.out (by by_cases hn : r.ownBlock = none; exact .inl hn; exact .inr hn)
        have hsz6 := HG6.out.size
        have hszr : Z.heap.size + 1 ≤ wr.heap.size := by have := blk_lt HO.out; omega
        refine miy_e rfl rfl (opIn_app1 Try.elByte rfl rfl hown6 c6 rfl (by omega) (by omega) ?_)
        intro g' cap' w7 hown7 hgrow7 hat7
        have HO7 := Lib.hid (blk_kept HO6.out hgrow7 (fun e => by have := (hown6.lt _ e.symm).1; omega))
        have HW7 := Lib.hid hown7
        have HG7 := Lib.hid hgrow7
        have HW6 := Lib.hid hown6
        clear hown7 hgrow7 hown6 c6 hg6 o6
        refine ⟨?fa, ?_⟩
        case fa =>
          rintro p hp hl
          simp only [List.mem_cons, List.not_mem_nil, or_false] at hp
          rcases hp with rfl | rfl
          · exact absurd (show true = false from hl) (by decide)
          · exact absurd (show true = false from hl) (by decide)
        have c7 := blk_cell HO7.out 0
        have f7 := blk_free HO7.out 0
        simp only [List.getElem?_toArray, List.getElem?_cons_zero] at c7
        refine miy_e rfl rfl ?_
        go_simp
        refine ⟨?fa, ?_⟩
        case fa =>
          rintro p hp hl
          simp only [List.mem_cons, List.not_mem_nil, or_false] at hp
          rcases hp with rfl | rfl
          · exact absurd (show true = false from hl) (by decide)
          · exact absurd (show true = false from hl) (by decide)
        refine miy_nil ?_
        gi_wp2
        go_roundw
        case rel =>
          refine ⟨u + 1, by omega, by go_num, ?_, ?_⟩
          · rw [HI.out]
            have hle : L[8 * k + u]? = some el := by
              have h := HEL.out
              rw [List.getElem?_eq_getElem (by omega), Option.getD_some] at h
              rw [List.getElem?_eq_getElem (by omega), h]
            have htk : (L.take (8 * k + (u + 1))).map (Value.int .u8) = (L.take (8 * k + u)).map (Value.int .u8) ++ [.int .u8 el] := by
              rw [← Nat.add_assoc, List.take_add_one, List.map_append, hle]
              rfl
            refine ⟨_, blk_set HO7.out 0 _, ?_, fun p hp => ?_, ?_⟩
            · rw [htk]
              exact HW7.out.kept (grown_set _ _ _) (.inr (fun e => by have := (HW7.out.lt _ e).1; simp at this; omega))
            · have hp1 := (hBl p hp).1
              exact blk_kept (blk_kept (blk_kept (HX.out p hp) HG6.out (by simp)) HG7.out (fun e => by have := (HW6.out.lt _ e.symm).1; omega)) (grown_set _ _ _) (by simp; omega)
            · have hb6 := below_nxt HBL.out (grown_below HG6.out)
              exact (hb6.grown HG7.out hb6.size (fun j e => by have := (HW6.out.lt _ e).1; omega)).setCell (p := ⟨Z.heap.size, 0, none⟩) hZ _
          · refine ((HKB.out.trans (KB.none HG6.out)).trans (KB.row HG7.out (fun j e => ⟨by have := (HW6.out.lt _ e).1; omega, owns_cells HW6.out e⟩))).trans (KB.row (grown_set _ _ _) (fun j e => ?_))
            cases e
            exact ⟨Nat.le_refl _, _, HO7.out, rfl⟩
        case measure => simp [intOf]; omega
      · have e : u = 8 := by omega
        subst e
        gi_wp2
        exact ⟨HKB.out, HIU.out⟩

set_option maxRecDepth 100000 in
set_option maxHeartbeats 8000000 in
theorem fetch_c5 (f g a b xv yv : Int) (v : Value) (xs : List Int) (w : World) (h : Rd .u8 w v xs) (ha : -9223372036854775808 ≤ a) (ha2 : a ≤ 9223372036854775807)
    (hc : cornE f g a = 0) (hlen : (xs.length : Int) = bytesS f) (hb1 : 1 ≤ b ∧ b ≤ 6) (hfit : fitsE f g a xv yv = 0) (hbb : b = 5) :
    Calls Try.prog 23 #[v, .agg #[.int .i64 f, .int .i64 g, .int .i64 a], .int .i64 b, .int .i64 xv, .int .i64 yv] w fun e w' => (∃ r, e = .returned (.tuple #[r, .int .i64 0]) ∧ w'.ownsRow w.heap.size 5 1 r 64 (((List.range 64).map (fun k => xs[(fetI f g a b xv yv k).toNat]?.getD 0)).map (Value.int .u8))) ∧ Below w.heap.size w w' := by
  refine (callsIn_wide (n := 0)).1 ?_
  have hwf : ∀ f, Fence.wide.fn f := fun _ => trivial
  have hwd : Fence.wide.depth = none := rfl
  obtain ⟨hf, hg, ha3, hX, hY⟩ := corn_ok hc
  obtain ⟨x0, x1, y0, y1⟩ := corner_bd hf hg ha3
  have hft : (-15 ≤ xv ∧ xv ≤ 15 ∧ -15 ≤ yv ∧ yv ≤ 15) ∧ (0 ≤ cornerX f g a + xv ∧ cornerX f g a + xv + 16 ≤ wideS f ∧ 0 ≤ cornerY g a + yv ∧ cornerY g a + yv + 16 ≤ highS f) := by
    rcases fits_cases f g a xv yv with ⟨h1, _⟩ | ⟨_, _, h1⟩ | ⟨_, _, _, h1⟩ | ⟨_, h1, h2, _⟩
    · exact absurd hc h1
    · rw [hfit] at h1; cases h1
    · rw [hfit] at h1; cases h1
    · exact ⟨h1, h2⟩
  obtain ⟨W0, hW⟩ : ∃ W0, wideS f = W0 := ⟨_, rfl⟩
  obtain ⟨H0, hH⟩ : ∃ H0, highS f = H0 := ⟨_, rfl⟩
  obtain ⟨N0, hN⟩ : ∃ N0 : Nat, W0 * H0 = N0 := ⟨(W0 * H0).toNat, by rw [← hW, ← hH]; rcases hf with rfl | rfl <;> decide⟩
  have hNx : xs.length = N0 + N0 / 4 + N0 / 4 ∧ 4 ≤ N0 ∧ N0 ≤ 1000000 ∧ 0 ≤ W0 ∧ W0 ≤ 352 ∧ 0 ≤ H0 ∧ H0 ≤ 288 ∧ W0 / 2 * 2 = W0 ∧ H0 / 2 * 2 = H0 ∧ (N0 : Int) / 4 = W0 / 2 * (H0 / 2) := by
    rw [← hW, ← hH] at hN
    rw [← hW, ← hH]
    clear hft hfit x0 x1 y0 y1
    rcases hf with rfl | rfl
    · have e : (176 : Int) * 144 = 25344 := rfl
      have e1 : wideS 0 = 176 := rfl
      have e2 : highS 0 = 144 := rfl
      have e3 : bytesS 0 = 38016 := rfl
      rw [e1, e2] at hN
      rw [e1, e2]
      rw [e3] at hlen
      omega
    · have e1 : wideS 1 = 352 := rfl
      have e2 : highS 1 = 288 := rfl
      have e3 : bytesS 1 = 152064 := rfl
      rw [e1, e2] at hN
      rw [e1, e2]
      rw [e3] at hlen
      omega
  obtain ⟨n1, n2, n3, n4, n5, n6, n7, n8, n9, n10⟩ := hNx
  have hrl := h.len
  have hrd := h
  obtain ⟨vb, voff0, cap0, rfl, hvb, hvc, hvh⟩ := h.solid (by omega)
  clear hvh h
  obtain ⟨X, eX⟩ : ∃ X, cornerX f g a = X := ⟨_, rfl⟩
  obtain ⟨Y, eY⟩ : ∃ Y, cornerY g a = Y := ⟨_, rfl⟩
  rw [eX, hW] at x1
  rw [eY, hH] at y1
  rw [eX] at x0 hX
  rw [eY] at y0 hY
  rw [eX, eY, hW, hH] at hft
  have HC := Lib.hid (And.intro hX (And.intro hY hc))
  have HS := Lib.hid (And.intro hW (And.intro hH hlen.symm))
  have HF := Lib.hid hfit
  have HE := Lib.hid (And.intro eX (And.intro eY hf))
  have HR := Lib.hid hrd
  obtain ⟨n, hn⟩ : ∃ n, xs.length = n := ⟨_, rfl⟩
  rw [hn] at n1 hrl hvc
  have HN := Lib.hid hn
  have hB0 := (((Below.refl w.heap.size w).alloc (Nat.le_refl _) (Obj.cells #[.int .i64 f, .int .i64 g, .int .i64 a] 23)).alloc (by simp) (Obj.cells #[.int .i64 xv] 3)).alloc (by simp <;> omega) (Obj.cells #[.int .i64 yv] 3)
  have hL0 := (((Lies.nil w).alloc (Obj.cells #[.int .i64 f, .int .i64 g, .int .i64 a] 23)).alloc (Obj.cells #[.int .i64 xv] 3)).alloc (Obj.cells #[.int .i64 yv] 3)
  simp only [World.size_alloc] at hL0
  have HL0 := Lib.hid hL0
  have HB0 := Lib.hid hB0
  have k0 := HL0.out.tail.tail.head
  have c0 := blk_cell k0 0
  have c1 := blk_cell k0 1
  have c2 := blk_cell k0 2
  simp only [List.getElem?_toArray, List.getElem?_cons_zero, List.getElem?_cons_succ] at c0 c1 c2
  have hsl : (wideS f, highS f, bytesS f) = (W0, H0, (n : Int)) := by rw [hW, hH, ← hlen, hn]
  have HS2 := Lib.hid hsl
  have HNF := Lib.hid (And.intro n1 (And.intro n8 (And.intro n9 (And.intro n10 hN))))
  have n11 : N0 + N0 / 4 ≤ n ∧ n ≤ N0 + N0 := by omega
  rw [hn]
  clear hL0 hB0 k0 n1 n8 n9 n10 hN hc hX hY hlen hfit hW hH eX eY hf hrd hg ha3 hn hsl
  have hmx : max (0 : Int) 1 = 1 := by decide
  (refine callsIn_of_wp_marks Try.func23 rfl trivial ?_ rfl; simp only [Try.ntmps23, List.size_toArray, List.length_cons, List.length_nil, Nat.reduceAdd, Nat.reduceSub, Array.replicate_succ, Array.replicate_zero, List.push_toArray, List.append_toArray, List.nil_append, List.cons_append])
  gi_wp2
  refine wpIn_scope ?_
  gi_wp2_with (first
    | (gi_at_call 46; refine (callsIn_wide.2 (Corner_any _ _ _ _ ha ha2)).mono ?_; rw [HC.out.1, HC.out.2.1, HC.out.2.2]; rintro e w1 ⟨rfl, hb'⟩; have hw1 := Nat.le_trans HB0.out.size hb'.size; have hw13 := hb'.size; simp only [World.size_alloc] at hw13; have hL := HL0.out.next hb'; have hB := below_nxt HB0.out hb'; clear hb' c0 c1 c2; have hB2 := hB.alloc hB.size (Obj.cells #[.int .i64 X] 3); have hB3 := hB2.alloc hB2.size (Obj.cells #[.int .i64 Y] 3); have hL3 := (hL.alloc (Obj.cells #[.int .i64 X] 3)).alloc (Obj.cells #[.int .i64 Y] 3); simp only [World.size_alloc] at hL3; have k0 := hL3.tail.tail.tail.tail.head; have c0 := blk_cell k0 0; have c1 := blk_cell k0 1; have c2 := blk_cell k0 2; have c8 := blk_cell hL3.tail.tail.tail.head 0; have c9 := blk_cell hL3.tail.tail.head 0; simp only [List.getElem?_toArray, List.getElem?_cons_zero, List.getElem?_cons_succ] at c0 c1 c2 c8 c9; have HL := Lib.hid hL3; have HB := Lib.hid hB3; clear hL hB hB2 hB3 hL3 k0)
    | (gi_at_call 37; refine (callsIn_wide.2 (size_any _ _)).mono ?_; rw [(Prod.mk.inj HS2.out).1, (Prod.mk.inj (Prod.mk.inj HS2.out).2).1, (Prod.mk.inj (Prod.mk.inj HS2.out).2).2]; rintro e w' ⟨rfl, rfl⟩)
    | (gi_at_call 26; refine (callsIn_wide.2 (fits_any _ _ _ _ _ _ ha ha2 (by omega) (by omega) (by omega) (by omega))).mono ?_; rw [HF.out]; rintro e w2 ⟨rfl, hb2⟩; have hw2 := hb2.size; simp only [World.size_alloc] at hw2)
    | (gi_at_call 74; refine (callsIn_wide.2 (planes_any _ _ _ _ _ _ N0 _ HNF.out.2.2.2.2 HNF.out.1 (by omega) n2 n3 n4 (by omega) n6 (by omega))).mono ?_; rintro e w3 ⟨rfl, hb3⟩; have hw3 := hb3.size))
  obtain ⟨voff, hvo⟩ : ∃ v, voff0 + N0 = v := ⟨_, rfl⟩
  obtain ⟨cap, hcp⟩ : ∃ v, cap0 - N0 = v := ⟨_, rfl⟩
  obtain ⟨N, hNN⟩ : ∃ v, N0 / 4 = v := ⟨_, rfl⟩
  obtain ⟨W, hWW⟩ : ∃ v, W0 / 2 = v := ⟨_, rfl⟩
  obtain ⟨H, hHH⟩ : ∃ v, H0 / 2 = v := ⟨_, rfl⟩
  rw [hvo, hcp, hNN, hWW, hHH]
  obtain ⟨V, hV⟩ : ∃ V, (w3.alloc (Obj.cells #[.slice (some ⟨vb, voff, none⟩) N cap, .int .i64 W, .int .i64 H] 81)).drew = V := ⟨_, rfl⟩
  have hL5 : Lies [(w3.heap.size, Obj.cells #[.slice (some ⟨vb, voff, none⟩) N cap, .int .i64 W, .int .i64 H] 81), (w1.heap.size + 1, Obj.cells #[.int .i64 Y] 3), (w1.heap.size, Obj.cells #[.int .i64 X] 3), (w.heap.size + 1 + 1, Obj.cells #[.int .i64 yv] 3), (w.heap.size + 1, Obj.cells #[.int .i64 xv] 3), (w.heap.size, Obj.cells #[.int .i64 f, .int .i64 g, .int .i64 a] 23)] V := by
    rw [← hV]
    exact (((HL.out.next hb2).next hb3).alloc _).next (grown_below (grown_drew _ none))
  have hB5 : Below w.heap.size w V := by
    rw [← hV]
    have h3 := below_nxt (below_nxt HB.out hb2) hb3
    exact below_nxt (h3.alloc h3.size _) (grown_below (grown_drew _ none))
  have r20 := hL5.head
  have r13 := hL5.tail.head
  have r12 := hL5.tail.tail.head
  have r9 := hL5.tail.tail.tail.head
  have r8 := hL5.tail.tail.tail.tail.head
  have d12 := blk_cell r12 0
  have d13 := blk_cell r13 0
  have d8 := blk_cell r8 0
  have d9 := blk_cell r9 0
  simp only [List.getElem?_toArray, List.getElem?_cons_zero, List.getElem?_cons_succ] at d12 d13 d8 d9
  have HR5 := Lib.hid (And.intro r20 (And.intro r13 (And.intro r12 (And.intro r9 r8))))
  have HB5 := Lib.hid hB5
  have hBs : ∀ p ∈ ([(8, fun w' => w'.cell? ⟨w1.heap.size, 0, none⟩ = some (.int .i64 X)), (9, fun w' => w'.cell? ⟨w1.heap.size + 1, 0, none⟩ = some (.int .i64 Y)), (10, fun w' => w'.cell? ⟨w.heap.size + 1, 0, none⟩ = some (.int .i64 xv)), (11, fun w' => w'.cell? ⟨w.heap.size + 1 + 1, 0, none⟩ = some (.int .i64 yv))] : List (Nat × (World → Prop))), p.2 V := by
    intro p hp
    simp only [List.mem_cons, List.not_mem_nil, or_false] at hp
    rcases hp with rfl | rfl | rfl | rfl
    · exact d12
    · exact d13
    · exact d8
    · exact d9
  have HBS := Lib.hid hBs
  have f12 := blk_free r12 0
  have f13 := blk_free r13 0
  have f8 := blk_free r8 0
  have f9 := blk_free r9 0
  clear hL5 hB5 hBs r20 r13 r12 r9 r8
  refine wpIn_region_miy [(8, fun w' => w'.cell? ⟨w1.heap.size, 0, none⟩ = some (.int .i64 X)), (9, fun w' => w'.cell? ⟨w1.heap.size + 1, 0, none⟩ = some (.int .i64 Y)), (10, fun w' => w'.cell? ⟨w.heap.size + 1, 0, none⟩ = some (.int .i64 xv)), (11, fun w' => w'.cell? ⟨w.heap.size + 1 + 1, 0, none⟩ = some (.int .i64 yv))] [(0, some 8), (1, some 8), (2, some 9), (3, some 9), (4, some 10), (6, some 11), (5, none), (7, none), (8, none), (9, none), (10, none), (11, none)] hwf (by kernel_rfl) (by kernel_rfl) rfl (by kernel_rfl) (by rw [hV]; exact HBS.out) ?_
  rw [hV]
  clear hV
  iterate 2 (refine miy_q _ (List.Mem.head _) rfl rfl (fun w' hB => by (try dsimp only at hB); go_simp; rfl) ?_; simp only [Act.put, List.setIfInBounds_toArray, List.set_cons_succ, List.set_cons_zero])
  iterate 2 (refine miy_q _ (List.Mem.tail _ (List.Mem.head _)) rfl rfl (fun w' hB => by (try dsimp only at hB); go_simp; rfl) ?_; simp only [Act.put, List.setIfInBounds_toArray, List.set_cons_succ, List.set_cons_zero])
  iterate 1 (refine miy_q _ (List.Mem.tail _ (List.Mem.tail _ (List.Mem.head _))) rfl rfl (fun w' hB => by (try dsimp only at hB); go_simp; rfl) ?_; simp only [Act.put, List.setIfInBounds_toArray, List.set_cons_succ, List.set_cons_zero])
  iterate 1 (refine miy_q _ (List.Mem.tail _ (List.Mem.tail _ (List.Mem.tail _ (List.Mem.head _)))) rfl rfl (fun w' hB => by (try dsimp only at hB); go_simp; rfl) ?_; simp only [Act.put, List.setIfInBounds_toArray, List.set_cons_succ, List.set_cons_zero])
  simp (disch := omega) only [w64, tmod_in, tdiv_in]
  refine miy_e rfl rfl ?_
  go_simp
  refine (callsIn_wide.2 (half_any _ _ (by omega) (by omega))).mono ?_
  rintro e w' ⟨rfl, rfl⟩
  refine ⟨fun p hp _ => HBS.out p hp, ?_⟩
  refine miy_e rfl rfl ?_
  go_simp
  refine (callsIn_wide.2 (half_any _ _ (by omega) (by omega))).mono ?_
  rintro e w' ⟨rfl, rfl⟩
  refine ⟨fun p hp _ => HBS.out p hp, ?_⟩
  obtain ⟨A, hA⟩ : ∃ A, X / 2 = A := ⟨_, rfl⟩
  obtain ⟨D, hD⟩ : ∃ D, Y / 2 = D := ⟨_, rfl⟩
  obtain ⟨x, hx⟩ : ∃ x, halfS xv = x := ⟨_, rfl⟩
  obtain ⟨y, hy⟩ : ∃ y, halfS yv = y := ⟨_, rfl⟩
  rw [hA, hD, hx, hy]
  have kx := half_tdiv xv
  have ky := half_tdiv yv
  rw [hx] at kx
  rw [hy] at ky
  have hxb : 0 ≤ A + x ∧ A + x + 8 ≤ W ∧ 0 ≤ D + y ∧ D + y + 8 ≤ H ∧ -15 ≤ x ∧ x ≤ 15 ∧ -15 ≤ y ∧ y ≤ 15 := by
    have e8 := HNF.out.2.1
    have e9 := HNF.out.2.2.1
    split at kx <;> split at ky <;> omega
  have HXY := Lib.hid (And.intro hA (And.intro hD (And.intro hx hy)))
  have HPL := Lib.hid (And.intro hvo (And.intro hcp (And.intro hNN (And.intro hWW hHH))))
  have hW0 : 0 ≤ W := by omega
  have hcc : N ≤ cap := by omega
  have hW5 : W ≤ 352 ∧ H ≤ 288 ∧ 0 ≤ H := by omega
  clear kx ky hA hD hx hy hvo hcp hNN hWW hHH
  have hsz1 := HB0.out.size
  simp only [World.size_alloc] at hsz1
  refine miy_e rfl rfl ?_
  go_simp
  refine ⟨?fa, ?_⟩
  case fa =>
    rintro p hp hl
    simp only [List.mem_cons, List.not_mem_nil, or_false] at hp
    rcases hp with rfl | rfl | rfl | rfl
    · exact absurd (show true = false from hl) (by decide)
    · exact blk_cell ((blk_kept HR5.out.2.1 (grown_set _ _ _) (by simp <;> omega))) 0
    · exact blk_cell ((blk_kept HR5.out.2.2.2.2 (grown_set _ _ _) (by simp <;> omega))) 0
    · exact blk_cell ((blk_kept HR5.out.2.2.2.1 (grown_set _ _ _) (by simp <;> omega))) 0
  refine miy_e rfl rfl ?_
  go_simp
  refine ⟨?fa, ?_⟩
  case fa =>
    rintro p hp hl
    simp only [List.mem_cons, List.not_mem_nil, or_false] at hp
    rcases hp with rfl | rfl | rfl | rfl
    · exact absurd (show true = false from hl) (by decide)
    · exact absurd (show true = false from hl) (by decide)
    · exact blk_cell ((blk_kept (blk_kept HR5.out.2.2.2.2 (grown_set _ _ _) (by simp <;> omega)) (grown_set _ _ _) (by simp <;> omega))) 0
    · exact blk_cell ((blk_kept (blk_kept HR5.out.2.2.2.1 (grown_set _ _ _) (by simp <;> omega)) (grown_set _ _ _) (by simp <;> omega))) 0
  refine miy_e rfl rfl ?_
  go_simp
  refine ⟨?fa, ?_⟩
  case fa =>
    rintro p hp hl
    simp only [List.mem_cons, List.not_mem_nil, or_false] at hp
    rcases hp with rfl | rfl | rfl | rfl
    · exact absurd (show true = false from hl) (by decide)
    · exact absurd (show true = false from hl) (by decide)
    · exact absurd (show true = false from hl) (by decide)
    · exact blk_cell ((blk_kept (blk_kept (blk_kept HR5.out.2.2.2.1 (grown_set _ _ _) (by simp <;> omega)) (grown_set _ _ _) (by simp <;> omega)) (grown_set _ _ _) (by simp <;> omega))) 0
  refine miy_e rfl rfl ?_
  go_simp
  refine ⟨?fa, ?_⟩
  case fa =>
    rintro p hp hl
    simp only [List.mem_cons, List.not_mem_nil, or_false] at hp
    rcases hp with rfl | rfl | rfl | rfl
    · exact absurd (show true = false from hl) (by decide)
    · exact absurd (show true = false from hl) (by decide)
    · exact absurd (show true = false from hl) (by decide)
    · exact absurd (show true = false from hl) (by decide)
  refine miy_nil ?_
  have g12 := blk_kept (blk_kept (blk_kept (blk_set HR5.out.2.2.1 0 (.int .i64 A)) (grown_set _ ⟨w1.heap.size + 1, 0, none⟩ (.int .i64 D)) (by simp <;> omega)) (grown_set _ ⟨w.heap.size + 1, 0, none⟩ (.int .i64 x)) (by simp <;> omega)) (grown_set _ ⟨w.heap.size + 1 + 1, 0, none⟩ (.int .i64 y)) (by simp <;> omega)
  have g13 := blk_kept (blk_kept (blk_set (blk_kept HR5.out.2.1 (grown_set _ ⟨w1.heap.size, 0, none⟩ (.int .i64 A)) (by simp <;> omega)) 0 (.int .i64 D)) (grown_set _ ⟨w.heap.size + 1, 0, none⟩ (.int .i64 x)) (by simp <;> omega)) (grown_set _ ⟨w.heap.size + 1 + 1, 0, none⟩ (.int .i64 y)) (by simp <;> omega)
  have g8 := blk_kept (blk_set (blk_kept (blk_kept HR5.out.2.2.2.2 (grown_set _ ⟨w1.heap.size, 0, none⟩ (.int .i64 A)) (by simp <;> omega)) (grown_set _ ⟨w1.heap.size + 1, 0, none⟩ (.int .i64 D)) (by simp <;> omega)) 0 (.int .i64 x)) (grown_set _ ⟨w.heap.size + 1 + 1, 0, none⟩ (.int .i64 y)) (by simp <;> omega)
  have g9 := blk_set (blk_kept (blk_kept (blk_kept HR5.out.2.2.2.1 (grown_set _ ⟨w1.heap.size, 0, none⟩ (.int .i64 A)) (by simp <;> omega)) (grown_set _ ⟨w1.heap.size + 1, 0, none⟩ (.int .i64 D)) (by simp <;> omega)) (grown_set _ ⟨w.heap.size + 1, 0, none⟩ (.int .i64 x)) (by simp <;> omega)) 0 (.int .i64 y)
  have g20 := blk_kept (blk_kept (blk_kept (blk_kept HR5.out.1 (grown_set _ ⟨w1.heap.size, 0, none⟩ (.int .i64 A)) (by simp <;> omega)) (grown_set _ ⟨w1.heap.size + 1, 0, none⟩ (.int .i64 D)) (by simp <;> omega)) (grown_set _ ⟨w.heap.size + 1, 0, none⟩ (.int .i64 x)) (by simp <;> omega)) (grown_set _ ⟨w.heap.size + 1 + 1, 0, none⟩ (.int .i64 y)) (by simp <;> omega)
  have hB6 : Below w.heap.size w ((((V.setCell ⟨w1.heap.size, 0, none⟩ (.int .i64 A)).setCell ⟨w1.heap.size + 1, 0, none⟩ (.int .i64 D)).setCell ⟨w.heap.size + 1, 0, none⟩ (.int .i64 x)).setCell ⟨w.heap.size + 1 + 1, 0, none⟩ (.int .i64 y)) := (((HB5.out.setCell (p := ⟨w1.heap.size, 0, none⟩) hw1 _).setCell (p := ⟨w1.heap.size + 1, 0, none⟩) (Nat.le_succ_of_le hw1) _).setCell (p := ⟨w.heap.size + 1, 0, none⟩) (by simp) _).setCell (p := ⟨w.heap.size + 1 + 1, 0, none⟩) (by simp <;> omega) _
  generalize (((V.setCell ⟨w1.heap.size, 0, none⟩ (.int .i64 A)).setCell ⟨w1.heap.size + 1, 0, none⟩ (.int .i64 D)).setCell ⟨w.heap.size + 1, 0, none⟩ (.int .i64 x)).setCell ⟨w.heap.size + 1 + 1, 0, none⟩ (.int .i64 y) = Z at *
  have o6 := trivial
  have PF := Lib.hid (show Rd .u8 w (.slice (some ⟨vb, voff, none⟩) N cap) ((xs.drop N0).take N) ∧ ((xs.drop N0).take N).length = N ∧ W * H = N ∧ ∀ k u : Nat, k < 8 → u < 8 → ∀ kk : Nat, (D + y + (k : Int)) * W + (A + x + (u : Int)) = kk → kk < N → ((xs.drop N0).take N)[kk]?.getD 0 = xs[(fetI f g a b xv yv (8 * k + u)).toNat]?.getD 0 from by
    have e1 := HNF.out.1
    have e10 := HNF.out.2.2.2.1
    have eN := HNF.out.2.2.2.2
    obtain ⟨p1, p2, p3, p4, p5⟩ := HPL.out
    obtain ⟨hA, hD, hx, hy⟩ := HXY.out
    refine ⟨?_, by rw [List.length_take, List.length_drop, HN.out]; omega, by rw [← p4, ← p5, ← e10]; omega, ?_⟩
    · have := HR.out.sub (N0) N cap (by rw [HN.out]; omega) (by omega)
      rwa [p1] at this
    · intro k u hk hu kk hkk hkN
      have e : fetI f g a b xv yv (8 * k + u) = (N0 : Nat) + kk := by
        rw [← hkk]
        have s1 : sxS b xv = x := by unfold sxS; rw [if_pos (by omega)]; exact hx
        have s2 : sxS b yv = y := by unfold sxS; rw [if_pos (by omega)]; exact hy
        have s3 : plcS f b = W := by unfold plcS; rw [if_neg (by omega), HS.out.1]; exact p4
        have s4 : plcV f X Y b = (N0 : Int) + (b - 5) * ((N0 : Int) / 4) + D * W + A := by unfold plcV; rw [if_neg (by omega), HS.out.1, HS.out.2.1, eN, p4, hD, hA]
        unfold fetI
        rw [HE.out.1, HE.out.2.1, s1, s2, s3, s4, hbb, show (((8 * k + u : Nat) : Int) / 8) = k by omega, show (((8 * k + u : Nat) : Int) % 8) = u by omega, show D + y + (k : Int) = D + ((k : Int) + y) by omega, Int.add_mul D]
        omega
      rw [e, sub_at xs _ N kk hkN]
      rfl)
  generalize (xs.drop N0).take N = ps at *
  have c12 := blk_cell g12 0
  have G12 := Lib.hid g12
  have G13 := Lib.hid g13
  have G8 := Lib.hid g8
  have G9 := Lib.hid g9
  have G20 := Lib.hid g20
  have HB6 := Lib.hid hB6
  clear g12 g13 g8 g9 g20 hB6 o6 c12 d12 d13 d8 d9 f12 f13 f8 f9 c0 c1 c2 c8 c9
  gi_wp2
  refine wpIn_label ?_
  gi_wp2_with (gi_at_call 75; refine (callsIn_wide.2 (rows_any _)).mono ?_; rintro e w' ⟨rfl, rfl⟩)
  have hZ : w.heap.size ≤ Z.heap.size := HB6.out.size
  obtain ⟨Z1, hZ1⟩ : ∃ Z1, Z.alloc (Obj.cells #[.slice none 0 0] 24) = Z1 := ⟨_, rfl⟩
  have zg := World.grownBy_alloc Z (Obj.cells #[.slice none 0 0] 24) none
  have zo := World.alloc_heap_new Z (Obj.cells #[.slice none 0 0] 24)
  have zs : Z1.heap.size = Z.heap.size + 1 := by rw [← hZ1]; simp
  rw [hZ1] at zg zo
  have zb : Below w.heap.size w Z1 := below_nxt HB6.out (grown_below zg)
  have zl : Lies [(w3.heap.size, Obj.cells #[.slice (some ⟨vb, voff, none⟩) N cap, .int .i64 W, .int .i64 H] 81), (w1.heap.size + 1, Obj.cells #[.int .i64 D] 3), (w1.heap.size, Obj.cells #[.int .i64 A] 3), (w.heap.size + 1 + 1, Obj.cells #[.int .i64 y] 3), (w.heap.size + 1, Obj.cells #[.int .i64 x] 3)] Z :=
    (((((Lies.nil Z).cons (p := (w.heap.size + 1, Obj.cells #[.int .i64 x] 3)) G8.out).cons (p := (w.heap.size + 1 + 1, Obj.cells #[.int .i64 y] 3)) G9.out).cons (p := (w1.heap.size, Obj.cells #[.int .i64 A] 3)) G12.out).cons (p := (w1.heap.size + 1, Obj.cells #[.int .i64 D] 3)) G13.out).cons (p := (w3.heap.size, Obj.cells #[.slice (some ⟨vb, voff, none⟩) N cap, .int .i64 W, .int .i64 H] 81)) G20.out
  have zl1 := zl.next (grown_below zg)
  obtain ⟨Bx, hBx⟩ : ∃ Bx : List (Nat × Obj), [(w3.heap.size, Obj.cells #[.slice (some ⟨vb, voff, none⟩) N cap, .int .i64 W, .int .i64 H] 81), (w1.heap.size + 1, Obj.cells #[.int .i64 D] 3), (w1.heap.size, Obj.cells #[.int .i64 A] 3), (w.heap.size + 1 + 1, Obj.cells #[.int .i64 y] 3), (w.heap.size + 1, Obj.cells #[.int .i64 x] 3)] = Bx := ⟨_, rfl⟩
  have hBl : ∀ p ∈ Bx, p.1 < Z.heap.size ∧ p.2.isCells = true := by
    rw [← hBx]
    intro p hp
    refine ⟨blk_lt (zl p hp), ?_⟩
    simp only [List.mem_cons, List.not_mem_nil, or_false] at hp
    rcases hp with rfl | rfl | rfl | rfl | rfl <;> rfl
  rw [hBx] at zl1
  have HBX := Lib.hid hBx
  have HZ1 := Lib.hid (And.intro zb (And.intro zo zl1))
  have hw3Z : w3.heap.size < Z.heap.size := blk_lt G20.out
  rw [hZ1]
  clear hZ1 zg zo zb zl zl1 hBx
  obtain ⟨L, hL⟩ : ∃ L : List Int, (List.range 64).map (fun k => xs[(fetI f g a b xv yv k).toNat]?.getD 0) = L := ⟨_, rfl⟩
  have hLl : L.length = 64 := by rw [← hL]; simp
  have HLL := Lib.hid hL
  refine wpIn_name (fun tm htm => ?_)
  have HTM := Lib.hid htm
  clear htm hL
  dsimp only
  obtain ⟨I, hI⟩ : ∃ I : Nat → World → Prop, I = fun m U => ∃ r, U.heap[Z.heap.size]? = some (.cells #[r] 24 (0, 0)) ∧ U.ownsRow (Z.heap.size + 1) 5 1 r m ((L.take m).map (Value.int .u8)) ∧ Lies Bx U ∧ Below w.heap.size w U := ⟨_, rfl⟩
  have HI := Lib.hid hI
  have hIA : ∀ m, Ab Z1.heap.size (fun _ => False) (fun _ U => I m U) := fun m => by
    rw [HI.out]
    refine Ab.ex (fun r => ?_)
    refine (Ab.blk (b := fun _ => Z.heap.size) (o := fun _ => .cells #[r] 24 (0, 0)) (fun _ => rfl) (fun _ h => h)).and ((Ab.owns (fun _ => m) (fun _ => (L.take m).map (Value.int .u8)) (fun _ h => h)).and (Ab.and ?_ (Ab.below (Nat.le_refl _) (by omega) (fun _ h => h.elim))))
    intro k W W' row hj hg hr p hp
    exact blk_kept (hj p hp) hg (fun e => by
      rcases hr _ e.symm with h | ⟨_, o, h1, h2⟩
      · exact h
      · rw [hj p hp] at h1; cases h1; rw [(hBl p hp).2] at h2; cases h2)
  have hI0 : I 0 Z1 := by
    rw [HI.out]
    exact ⟨_, HZ1.out.2.1, World.ownsRow_nil _ _ _ _, HZ1.out.2.2, HZ1.out.1⟩
  clear hI
  have hev : (Act.mk tm []).eval (.tmp 95) = .func (.func 95) #[] #[] := by rw [HTM.out]; rfl
  refine range_outer (gf := 95) (lb := #[]) hev (enters_of Try.func95 (by kernel_rfl) rfl)
    (rows_seq (fun k => Z.heap.size ≤ k) (fun _ => False) Z1) (Below.refl _ _) (fun k x hx => by obtain ⟨_, rfl⟩ := rowsA_inv hx; rfl) (fun _ h => h.elim)
    (fun k U => I (8 * k) U) (fun c k U => False) (fun k W W' row hj hg hr => hIA _ k W W' row hj hg hr) (fun _ => Ab.never _ _) hI0
    (fun k a' U => a' = { tmps := (tm.setIfInBounds 96 (.int .i64 k)).setIfInBounds 22 (.int .i64 k), defers := [] } ∧ I (8 * k) U) ?hAft ?assign ?body ?done ?stop
  case hAft =>
    rintro k a' j U U' row ⟨h1, h2⟩ hg hr
    exact ⟨h1, hIA _ k U U' row h2 hg hr⟩
  case assign =>
    rintro l' k x U hx hi
    obtain ⟨hk8, rfl⟩ := rowsA_inv hx
    rw [HTM.out]
    gi_wp2
    exact ⟨KB.refl _ _ _, hi⟩
  case done =>
    rintro U hi hD
    rw [HI.out, rowsA_len] at hi
    obtain ⟨r, ho, hown, _, hbel⟩ := hi
    have HO := Lib.hid ho
    have HW := Lib.hid hown
    have HBL := Lib.hid hbel
    rw [zs] at hD
    have HD := Lib.hid hD
    have c21 := blk_cell ho 0
    simp only [List.getElem?_toArray, List.getElem?_cons_zero] at c21
    clear ho hown hbel hD
    rw [HTM.out]
    gi_wp2
    refine ⟨by simp, .inl ⟨_, _, rfl, run_takeDeferred HD.out, ?_⟩⟩
    have hp := grownBy_putObj' U (Z.heap.size + 1) (.deferred none)
    refine ⟨_, by simp [results, Try.results23, go_sem], ⟨r, rfl, ?_⟩, HBL.out.grown hp (by have := HBL.out.size; omega) (fun j e => by cases e; omega)⟩
    have h1 := owns_mono HW.out (show w.heap.size ≤ Z.heap.size + 1 by omega)
    have hLt : (L.take 64) = L := List.take_of_length_le (by omega)
    rw [hLt] at h1
    rw [HLL.out]
    exact h1.kept hp (by
      by_cases hn : r.ownBlock = none
      · exact .inl hn
      · refine .inr (fun e => ?_)
        obtain ⟨o, h3, h4⟩ := owns_cells HW.out e
        rw [HD.out] at h3; cases h3; cases h4)
  case stop =>
    rintro c k U _ _ h _
    exact h.elim
  case body =>
    rintro l' k x a' U hx hl hr ⟨rfl, hi⟩
    obtain ⟨hk8, rfl⟩ := rowsA_inv hx
    have HI8 := Lib.hid hi
    clear hi hx hr
    rw [HTM.out]
    gi_wp2
    gi_loopw [97] (fun i wr => ∃ u : Nat, u ≤ 8 ∧ i = .int .i64 u ∧ I (8 * k + u) wr ∧ KB (fun j => Z.heap.size ≤ j) Z1.heap.size U wr) (fun i _ => 10 - (intOf i).toNat)
    case atStart => exact ⟨0, by omega, rfl, HI8.out, KB.refl _ _ _⟩
    case round =>
      obtain ⟨u, hu, rfl, hiu, hkb⟩ := hrel
      have HIU := Lib.hid hiu
      have HKB := Lib.hid hkb
      rw [HI.out] at hiu
      obtain ⟨r, ho, hown, hbx, hbel⟩ := hiu
      have HO := Lib.hid ho
      have HW := Lib.hid hown
      have HX := Lib.hid hbx
      have HBL := Lib.hid hbel
      rw [← HBX.out] at hbx
      have HX5 := Lib.hid hbx
      clear ho hown hbx hbel hkb
      by_cases hlt : u < 8
      · have hul : (u : Int) < 8 := by omega
        have c20 := blk_cell HX5.out.head 0
        have c21 := blk_cell HX5.out.head 1
        have c22 := blk_cell HX5.out.head 2
        have c13 := blk_cell HX5.out.tail.head 0
        have c12 := blk_cell HX5.out.tail.tail.head 0
        have c9 := blk_cell HX5.out.tail.tail.tail.head 0
        have c8 := blk_cell HX5.out.tail.tail.tail.tail.head 0
        simp only [List.getElem?_toArray, List.getElem?_cons_zero, List.getElem?_cons_succ] at c20 c21 c22 c13 c12 c9 c8
        have hin : decide (0 ≤ A + x + (u : Int) ∧ A + x + (u : Int) < W ∧ 0 ≤ D + y + (k : Int) ∧ D + y + (k : Int) < H) = true := by simp only [decide_eq_true_eq]; omega
        gi_wp2_with (gi_at_call 76; refine (callsIn_wide.2 (in_any _ _ _ _ _ _)).mono ?_; rw [hin]; rintro e w4 ⟨rfl, hb4⟩)
        have q1 : (D + y + (k : Int)) * W ≤ (H - 1) * W := Int.mul_le_mul_of_nonneg_right (by omega) hW0
        have q2 : (H - 1) * W = W * H - W := by rw [Int.sub_mul, Int.one_mul, Int.mul_comm]
        have q3 : 0 ≤ (D + y + (k : Int)) * W := Int.mul_nonneg (by omega) hW0
        have q4 := PF.out.2.2.1
        obtain ⟨kk, hkk, hkN⟩ : ∃ kk : Nat, (D + y + (k : Int)) * W + (A + x + (u : Int)) = kk ∧ kk < N := ⟨((D + y + (k : Int)) * W + (A + x + (u : Int))).toNat, by omega, by omega⟩
        have hval : ps[kk]?.getD 0 = L[8 * k + u]?.getD 0 := by
          rw [← HLL.out, List.getElem?_map, List.getElem?_range (by omega), Option.map_some, Option.getD_some]
          exact PF.out.2.2.2 k u hk8 hlt kk hkk hkN
        have rdp := PF.out.1
        have hln := PF.out.2.1
        have HQ := Lib.hid (And.intro hkk (And.intro hval (And.intro rdp hln)))
        clear q1 q2 q3 q4 hkk hval rdp hln hin c20 c21 c22 c13 c12 c9 c8
        obtain ⟨V4, hV4⟩ : ∃ V4, w4.drew = V4 := ⟨_, rfl⟩
        have hg4 : wr.grownBy V4 none := by rw [← hV4]; exact (below_grown hb4 none).trans (grown_drew _ none)
        have o4 := blk_kept HO.out hg4 (by simp)
        have x4 := HX5.out.next (grown_below hg4)
        have d20 := blk_cell x4.head 0
        have d21 := blk_cell x4.head 1
        have d22 := blk_cell x4.head 2
        have d13 := blk_cell x4.tail.head 0
        have d12 := blk_cell x4.tail.tail.head 0
        have d9 := blk_cell x4.tail.tail.tail.head 0
        have d8 := blk_cell x4.tail.tail.tail.tail.head 0
        have dr := blk_cell o4 0
        simp only [List.getElem?_toArray, List.getElem?_cons_zero, List.getElem?_cons_succ] at d20 d21 d22 d13 d12 d9 d8 dr
        have HG4 := Lib.hid hg4
        have HO4 := Lib.hid o4
        clear hg4 o4 x4 hb4
        refine wpIn_region_miy [(12, fun w' => w'.cell? ⟨w3.heap.size, 0, none⟩ = some (.slice (some ⟨vb, voff, none⟩) N cap) ∧ w'.cell? ⟨w3.heap.size, 1, none⟩ = some (.int .i64 W) ∧ w'.cell? ⟨w3.heap.size, 2, none⟩ = some (.int .i64 H) ∧ w'.cell? ⟨w1.heap.size, 0, none⟩ = some (.int .i64 A) ∧ w'.cell? ⟨w.heap.size + 1, 0, none⟩ = some (.int .i64 x) ∧ w'.cell? ⟨w1.heap.size + 1, 0, none⟩ = some (.int .i64 D) ∧ w'.cell? ⟨w.heap.size + 1 + 1, 0, none⟩ = some (.int .i64 y)), (14, fun w' => w'.cell? ⟨Z.heap.size, 0, none⟩ = some r)]
          [(0, some 14), (1, some 12), (2, some 12), (3, some 12), (4, some 12), (5, some 12), (6, some 12), (7, some 12), (8, some 12), (9, some 12), (10, some 12), (11, some 12), (12, none), (13, none), (14, none), (15, none)] (fun _ => trivial) (by kernel_rfl) (by kernel_rfl) rfl (by kernel_rfl) ?hB ?_
        case hB =>
          rw [hV4]
          intro p hp
          simp only [List.mem_cons, List.not_mem_nil, or_false] at hp
          rcases hp with rfl | rfl
          · exact ⟨d20, d21, d22, d12, d8, d13, d9⟩
          · exact dr
        rw [hV4]
        clear hV4 d20 d21 d22 d13 d12 d9 d8 dr
        refine miy_q _ (List.Mem.tail _ (List.Mem.head _)) rfl rfl (fun w' hB => by (try dsimp only at hB); go_simp; rfl) ?_; simp only [Act.put, List.setIfInBounds_toArray, List.set_cons_succ, List.set_cons_zero]
        iterate 11 (refine miy_q _ (List.Mem.head _) rfl rfl (fun w' hB => by (try dsimp only at hB); obtain ⟨e0, e1, e2, e3, e4, e5, e6⟩ := hB; go_simp; rfl) ?_; simp only [Act.put, List.setIfInBounds_toArray, List.set_cons_succ, List.set_cons_zero])
        simp (disch := omega) only [w64, tmod_in, tdiv_in]
        refine miy_e rfl rfl ?_
        go_simp
        have hrd4 : Rd .u8 V4 (.slice (some ⟨vb, voff, none⟩) N cap) ps := HQ.out.2.2.1.below (below_nxt HBL.out (grown_below HG4.out))
        have hat := at_any (.slice (some ⟨vb, voff, none⟩) N cap) ps W H (A + x + (u : Int)) (D + y + (k : Int)) kk V4 hrd4 (by rw [HQ.out.2.2.2]; exact hkN) HQ.out.1 hW0 (by omega) (by omega) (by omega) (by omega) (by omega)
        rw [HQ.out.2.1] at hat
        refine (callsIn_wide.2 hat).mono ?_
        clear hat hrd4
        rintro e w5 ⟨rfl, hb5⟩
        generalize hel : L[8 * k + u]?.getD 0 = el at *
        have hg5 : wr.grownBy w5 none := HG4.out.trans (below_grown hb5 none)
        have o5 := blk_kept HO.out hg5 (by simp)
        have HG5 := Lib.hid hg5
        have HO5 := Lib.hid o5
        have HEL := Lib.hid hel
        clear hb5 hg5 o5 hel
        refine ⟨?fa, ?_⟩
        case fa =>
          rintro p hp hl
          simp only [List.mem_cons, List.not_mem_nil, or_false] at hp
          rcases hp with rfl | rfl
          · exact absurd (show true = false from hl) (by decide)
          · exact blk_cell HO5.out 0
        refine miy_e rfl rfl ?_
        go_simp
        have hg6 := World.grownBy_alloc w5 (Obj.cells #[.int .u8 el] 5) none
        have o6 := blk_kept HO5.out hg6 (by simp)
        have c6 := cell_alloc1 w5 (.int .u8 el) 5
        have HG6 := Lib.hid (HG5.out.trans hg6)
        have HO6 := Lib.hid o6
        refine ⟨?fa, ?_⟩
        case fa =>
          rintro p hp hl
          simp only [List.mem_cons, List.not_mem_nil, or_false] at hp
          rcases hp with rfl | rfl
          · exact absurd (show true = false from hl) (by decide)
          · exact blk_cell HO6.out 0
        have hown6 := HW.out.kept HG6.out (by by_cases hn : r.ownBlock = none; exact .inl hn; exact .inr hn)
        have hsz6 := HG6.out.size
        have hszr : Z.heap.size + 1 ≤ wr.heap.size := by have := blk_lt HO.out; omega
        refine miy_e rfl rfl (opIn_app1 Try.elByte rfl rfl hown6 c6 rfl (by omega) (by omega) ?_)
        intro g' cap' w7 hown7 hgrow7 hat7
        have HO7 := Lib.hid (blk_kept HO6.out hgrow7 (fun e => by have := (hown6.lt _ e.symm).1; omega))
        have HW7 := Lib.hid hown7
        have HG7 := Lib.hid hgrow7
        have HW6 := Lib.hid hown6
        clear hown7 hgrow7 hown6 c6 hg6 o6
        refine ⟨?fa, ?_⟩
        case fa =>
          rintro p hp hl
          simp only [List.mem_cons, List.not_mem_nil, or_false] at hp
          rcases hp with rfl | rfl
          · exact absurd (show true = false from hl) (by decide)
          · exact absurd (show true = false from hl) (by decide)
        have c7 := blk_cell HO7.out 0
        have f7 := blk_free HO7.out 0
        simp only [List.getElem?_toArray, List.getElem?_cons_zero] at c7
        refine miy_e rfl rfl ?_
        go_simp
        refine ⟨?fa, ?_⟩
        case fa =>
          rintro p hp hl
          simp only [List.mem_cons, List.not_mem_nil, or_false] at hp
          rcases hp with rfl | rfl
          · exact absurd (show true = false from hl) (by decide)
          · exact absurd (show true = false from hl) (by decide)
        refine miy_nil ?_
        gi_wp2
        go_roundw
        case rel =>
          refine ⟨u + 1, by omega, by go_num, ?_, ?_⟩
          · rw [HI.out]
            have hle : L[8 * k + u]? = some el := by
              have h := HEL.out
              rw [List.getElem?_eq_getElem (by omega), Option.getD_some] at h
              rw [List.getElem?_eq_getElem (by omega), h]
            have htk : (L.take (8 * k + (u + 1))).map (Value.int .u8) = (L.take (8 * k + u)).map (Value.int .u8) ++ [.int .u8 el] := by
              rw [← Nat.add_assoc, List.take_add_one, List.map_append, hle]
              rfl
            refine ⟨_, blk_set HO7.out 0 _, ?_, fun p hp => ?_, ?_⟩
            · rw [htk]
              exact HW7.out.kept (grown_set _ _ _) (.inr (fun e => by have := (HW7.out.lt _ e).1; simp at this; omega))
            · have hp1 := (hBl p hp).1
              exact blk_kept (blk_kept (blk_kept (HX.out p hp) HG6.out (by simp)) HG7.out (fun e => by have := (HW6.out.lt _ e.symm).1; omega)) (grown_set _ _ _) (by simp; omega)
            · have hb6 := below_nxt HBL.out (grown_below HG6.out)
              exact (hb6.grown HG7.out hb6.size (fun j e => by have := (HW6.out.lt _ e).1; omega)).setCell (p := ⟨Z.heap.size, 0, none⟩) hZ _
          · refine ((HKB.out.trans (KB.none HG6.out)).trans (KB.row HG7.out (fun j e => ⟨by have := (HW6.out.lt _ e).1; omega, owns_cells HW6.out e⟩))).trans (KB.row (grown_set _ _ _) (fun j e => ?_))
            cases e
            exact ⟨Nat.le_refl _, _, HO7.out, rfl⟩
        case measure => simp [intOf]; omega
      · have e : u = 8 := by omega
        subst e
        gi_wp2
        exact ⟨HKB.out, HIU.out⟩

set_option maxRecDepth 100000 in
set_option maxHeartbeats 8000000 in
theorem fetch_c6 (f g a b xv yv : Int) (v : Value) (xs : List Int) (w : World) (h : Rd .u8 w v xs) (ha : -9223372036854775808 ≤ a) (ha2 : a ≤ 9223372036854775807)
    (hc : cornE f g a = 0) (hlen : (xs.length : Int) = bytesS f) (hb1 : 1 ≤ b ∧ b ≤ 6) (hfit : fitsE f g a xv yv = 0) (hbb : b = 6) :
    Calls Try.prog 23 #[v, .agg #[.int .i64 f, .int .i64 g, .int .i64 a], .int .i64 b, .int .i64 xv, .int .i64 yv] w fun e w' => (∃ r, e = .returned (.tuple #[r, .int .i64 0]) ∧ w'.ownsRow w.heap.size 5 1 r 64 (((List.range 64).map (fun k => xs[(fetI f g a b xv yv k).toNat]?.getD 0)).map (Value.int .u8))) ∧ Below w.heap.size w w' := by
  refine (callsIn_wide (n := 0)).1 ?_
  have hwf : ∀ f, Fence.wide.fn f := fun _ => trivial
  have hwd : Fence.wide.depth = none := rfl
  obtain ⟨hf, hg, ha3, hX, hY⟩ := corn_ok hc
  obtain ⟨x0, x1, y0, y1⟩ := corner_bd hf hg ha3
  have hft : (-15 ≤ xv ∧ xv ≤ 15 ∧ -15 ≤ yv ∧ yv ≤ 15) ∧ (0 ≤ cornerX f g a + xv ∧ cornerX f g a + xv + 16 ≤ wideS f ∧ 0 ≤ cornerY g a + yv ∧ cornerY g a + yv + 16 ≤ highS f) := by
    rcases fits_cases f g a xv yv with ⟨h1, _⟩ | ⟨_, _, h1⟩ | ⟨_, _, _, h1⟩ | ⟨_, h1, h2, _⟩
    · exact absurd hc h1
    · rw [hfit] at h1; cases h1
    · rw [hfit] at h1; cases h1
    · exact ⟨h1, h2⟩
  obtain ⟨W0, hW⟩ : ∃ W0, wideS f = W0 := ⟨_, rfl⟩
  obtain ⟨H0, hH⟩ : ∃ H0, highS f = H0 := ⟨_, rfl⟩
  obtain ⟨N0, hN⟩ : ∃ N0 : Nat, W0 * H0 = N0 := ⟨(W0 * H0).toNat, by rw [← hW, ← hH]; rcases hf with rfl | rfl <;> decide⟩
  have hNx : xs.length = N0 + N0 / 4 + N0 / 4 ∧ 4 ≤ N0 ∧ N0 ≤ 1000000 ∧ 0 ≤ W0 ∧ W0 ≤ 352 ∧ 0 ≤ H0 ∧ H0 ≤ 288 ∧ W0 / 2 * 2 = W0 ∧ H0 / 2 * 2 = H0 ∧ (N0 : Int) / 4 = W0 / 2 * (H0 / 2) := by
    rw [← hW, ← hH] at hN
    rw [← hW, ← hH]
    clear hft hfit x0 x1 y0 y1
    rcases hf with rfl | rfl
    · have e : (176 : Int) * 144 = 25344 := rfl
      have e1 : wideS 0 = 176 := rfl
      have e2 : highS 0 = 144 := rfl
      have e3 : bytesS 0 = 38016 := rfl
      rw [e1, e2] at hN
      rw [e1, e2]
      rw [e3] at hlen
      omega
    · have e1 : wideS 1 = 352 := rfl
      have e2 : highS 1 = 288 := rfl
      have e3 : bytesS 1 = 152064 := rfl
      rw [e1, e2] at hN
      rw [e1, e2]
      rw [e3] at hlen
      omega
  obtain ⟨n1, n2, n3, n4, n5, n6, n7, n8, n9, n10⟩ := hNx
  have hrl := h.len
  have hrd := h
  obtain ⟨vb, voff0, cap0, rfl, hvb, hvc, hvh⟩ := h.solid (by omega)
  clear hvh h
  obtain ⟨X, eX⟩ : ∃ X, cornerX f g a = X := ⟨_, rfl⟩
  obtain ⟨Y, eY⟩ : ∃ Y, cornerY g a = Y := ⟨_, rfl⟩
  rw [eX, hW] at x1
  rw [eY, hH] at y1
  rw [eX] at x0 hX
  rw [eY] at y0 hY
  rw [eX, eY, hW, hH] at hft
  have HC := Lib.hid (And.intro hX (And.intro hY hc))
  have HS := Lib.hid (And.intro hW (And.intro hH hlen.symm))
  have HF := Lib.hid hfit
  have HE := Lib.hid (And.intro eX (And.intro eY hf))
  have HR := Lib.hid hrd
  obtain ⟨n, hn⟩ : ∃ n, xs.length = n := ⟨_, rfl⟩
  rw [hn] at n1 hrl hvc
  have HN := Lib.hid hn
  have hB0 := (((Below.refl w.heap.size w).alloc (Nat.le_refl _) (Obj.cells #[.int .i64 f, .int .i64 g, .int .i64 a] 23)).alloc (by simp) (Obj.cells #[.int .i64 xv] 3)).alloc (by simp <;> omega) (Obj.cells #[.int .i64 yv] 3)
  have hL0 := (((Lies.nil w).alloc (Obj.cells #[.int .i64 f, .int .i64 g, .int .i64 a] 23)).alloc (Obj.cells #[.int .i64 xv] 3)).alloc (Obj.cells #[.int .i64 yv] 3)
  simp only [World.size_alloc] at hL0
  have HL0 := Lib.hid hL0
  have HB0 := Lib.hid hB0
  have k0 := HL0.out.tail.tail.head
  have c0 := blk_cell k0 0
  have c1 := blk_cell k0 1
  have c2 := blk_cell k0 2
  simp only [List.getElem?_toArray, List.getElem?_cons_zero, List.getElem?_cons_succ] at c0 c1 c2
  have hsl : (wideS f, highS f, bytesS f) = (W0, H0, (n : Int)) := by rw [hW, hH, ← hlen, hn]
  have HS2 := Lib.hid hsl
  have HNF := Lib.hid (And.intro n1 (And.intro n8 (And.intro n9 (And.intro n10 hN))))
  have n11 : N0 + N0 / 4 ≤ n ∧ n ≤ N0 + N0 := by omega
  rw [hn]
  clear hL0 hB0 k0 n1 n8 n9 n10 hN hc hX hY hlen hfit hW hH eX eY hf hrd hg ha3 hn hsl
  have hmx : max (0 : Int) 2 = 2 := by decide
  (refine callsIn_of_wp_marks Try.func23 rfl trivial ?_ rfl; simp only [Try.ntmps23, List.size_toArray, List.length_cons, List.length_nil, Nat.reduceAdd, Nat.reduceSub, Array.replicate_succ, Array.replicate_zero, List.push_toArray, List.append_toArray, List.nil_append, List.cons_append])
  gi_wp2
  refine wpIn_scope ?_
  gi_wp2_with (first
    | (gi_at_call 46; refine (callsIn_wide.2 (Corner_any _ _ _ _ ha ha2)).mono ?_; rw [HC.out.1, HC.out.2.1, HC.out.2.2]; rintro e w1 ⟨rfl, hb'⟩; have hw1 := Nat.le_trans HB0.out.size hb'.size; have hw13 := hb'.size; simp only [World.size_alloc] at hw13; have hL := HL0.out.next hb'; have hB := below_nxt HB0.out hb'; clear hb' c0 c1 c2; have hB2 := hB.alloc hB.size (Obj.cells #[.int .i64 X] 3); have hB3 := hB2.alloc hB2.size (Obj.cells #[.int .i64 Y] 3); have hL3 := (hL.alloc (Obj.cells #[.int .i64 X] 3)).alloc (Obj.cells #[.int .i64 Y] 3); simp only [World.size_alloc] at hL3; have k0 := hL3.tail.tail.tail.tail.head; have c0 := blk_cell k0 0; have c1 := blk_cell k0 1; have c2 := blk_cell k0 2; have c8 := blk_cell hL3.tail.tail.tail.head 0; have c9 := blk_cell hL3.tail.tail.head 0; simp only [List.getElem?_toArray, List.getElem?_cons_zero, List.getElem?_cons_succ] at c0 c1 c2 c8 c9; have HL := Lib.hid hL3; have HB := Lib.hid hB3; clear hL hB hB2 hB3 hL3 k0)
    | (gi_at_call 37; refine (callsIn_wide.2 (size_any _ _)).mono ?_; rw [(Prod.mk.inj HS2.out).1, (Prod.mk.inj (Prod.mk.inj HS2.out).2).1, (Prod.mk.inj (Prod.mk.inj HS2.out).2).2]; rintro e w' ⟨rfl, rfl⟩)
    | (gi_at_call 26; refine (callsIn_wide.2 (fits_any _ _ _ _ _ _ ha ha2 (by omega) (by omega) (by omega) (by omega))).mono ?_; rw [HF.out]; rintro e w2 ⟨rfl, hb2⟩; have hw2 := hb2.size; simp only [World.size_alloc] at hw2)
    | (gi_at_call 74; refine (callsIn_wide.2 (planes_any _ _ _ _ _ _ N0 _ HNF.out.2.2.2.2 HNF.out.1 (by omega) n2 n3 n4 (by omega) n6 (by omega))).mono ?_; rintro e w3 ⟨rfl, hb3⟩; have hw3 := hb3.size))
  obtain ⟨voff, hvo⟩ : ∃ v, voff0 + (N0 + N0 / 4) = v := ⟨_, rfl⟩
  obtain ⟨cap, hcp⟩ : ∃ v, cap0 - (N0 + N0 / 4) = v := ⟨_, rfl⟩
  obtain ⟨N, hNN⟩ : ∃ v, n - (N0 + N0 / 4) = v := ⟨_, rfl⟩
  obtain ⟨W, hWW⟩ : ∃ v, W0 / 2 = v := ⟨_, rfl⟩
  obtain ⟨H, hHH⟩ : ∃ v, H0 / 2 = v := ⟨_, rfl⟩
  rw [hvo, hcp, hNN, hWW, hHH]
  obtain ⟨V, hV⟩ : ∃ V, (w3.alloc (Obj.cells #[.slice (some ⟨vb, voff, none⟩) N cap, .int .i64 W, .int .i64 H] 81)).drew = V := ⟨_, rfl⟩
  have hL5 : Lies [(w3.heap.size, Obj.cells #[.slice (some ⟨vb, voff, none⟩) N cap, .int .i64 W, .int .i64 H] 81), (w1.heap.size + 1, Obj.cells #[.int .i64 Y] 3), (w1.heap.size, Obj.cells #[.int .i64 X] 3), (w.heap.size + 1 + 1, Obj.cells #[.int .i64 yv] 3), (w.heap.size + 1, Obj.cells #[.int .i64 xv] 3), (w.heap.size, Obj.cells #[.int .i64 f, .int .i64 g, .int .i64 a] 23)] V := by
    rw [← hV]
    exact (((HL.out.next hb2).next hb3).alloc _).next (grown_below (grown_drew _ none))
  have hB5 : Below w.heap.size w V := by
    rw [← hV]
    have h3 := below_nxt (below_nxt HB.out hb2) hb3
    exact below_nxt (h3.alloc h3.size _) (grown_below (grown_drew _ none))
  have r20 := hL5.head
  have r13 := hL5.tail.head
  have r12 := hL5.tail.tail.head
  have r9 := hL5.tail.tail.tail.head
  have r8 := hL5.tail.tail.tail.tail.head
  have d12 := blk_cell r12 0
  have d13 := blk_cell r13 0
  have d8 := blk_cell r8 0
  have d9 := blk_cell r9 0
  simp only [List.getElem?_toArray, List.getElem?_cons_zero, List.getElem?_cons_succ] at d12 d13 d8 d9
  have HR5 := Lib.hid (And.intro r20 (And.intro r13 (And.intro r12 (And.intro r9 r8))))
  have HB5 := Lib.hid hB5
  have hBs : ∀ p ∈ ([(8, fun w' => w'.cell? ⟨w1.heap.size, 0, none⟩ = some (.int .i64 X)), (9, fun w' => w'.cell? ⟨w1.heap.size + 1, 0, none⟩ = some (.int .i64 Y)), (10, fun w' => w'.cell? ⟨w.heap.size + 1, 0, none⟩ = some (.int .i64 xv)), (11, fun w' => w'.cell? ⟨w.heap.size + 1 + 1, 0, none⟩ = some (.int .i64 yv))] : List (Nat × (World → Prop))), p.2 V := by
    intro p hp
    simp only [List.mem_cons, List.not_mem_nil, or_false] at hp
    rcases hp with rfl | rfl | rfl | rfl
    · exact d12
    · exact d13
    · exact d8
    · exact d9
  have HBS := Lib.hid hBs
  have f12 := blk_free r12 0
  have f13 := blk_free r13 0
  have f8 := blk_free r8 0
  have f9 := blk_free r9 0
  clear hL5 hB5 hBs r20 r13 r12 r9 r8
  refine wpIn_region_miy [(8, fun w' => w'.cell? ⟨w1.heap.size, 0, none⟩ = some (.int .i64 X)), (9, fun w' => w'.cell? ⟨w1.heap.size + 1, 0, none⟩ = some (.int .i64 Y)), (10, fun w' => w'.cell? ⟨w.heap.size + 1, 0, none⟩ = some (.int .i64 xv)), (11, fun w' => w'.cell? ⟨w.heap.size + 1 + 1, 0, none⟩ = some (.int .i64 yv))] [(0, some 8), (1, some 8), (2, some 9), (3, some 9), (4, some 10), (6, some 11), (5, none), (7, none), (8, none), (9, none), (10, none), (11, none)] hwf (by kernel_rfl) (by kernel_rfl) rfl (by kernel_rfl) (by rw [hV]; exact HBS.out) ?_
  rw [hV]
  clear hV
  iterate 2 (refine miy_q _ (List.Mem.head _) rfl rfl (fun w' hB => by (try dsimp only at hB); go_simp; rfl) ?_; simp only [Act.put, List.setIfInBounds_toArray, List.set_cons_succ, List.set_cons_zero])
  iterate 2 (refine miy_q _ (List.Mem.tail _ (List.Mem.head _)) rfl rfl (fun w' hB => by (try dsimp only at hB); go_simp; rfl) ?_; simp only [Act.put, List.setIfInBounds_toArray, List.set_cons_succ, List.set_cons_zero])
  iterate 1 (refine miy_q _ (List.Mem.tail _ (List.Mem.tail _ (List.Mem.head _))) rfl rfl (fun w' hB => by (try dsimp only at hB); go_simp; rfl) ?_; simp only [Act.put, List.setIfInBounds_toArray, List.set_cons_succ, List.set_cons_zero])
  iterate 1 (refine miy_q _ (List.Mem.tail _ (List.Mem.tail _ (List.Mem.tail _ (List.Mem.head _)))) rfl rfl (fun w' hB => by (try dsimp only at hB); go_simp; rfl) ?_; simp only [Act.put, List.setIfInBounds_toArray, List.set_cons_succ, List.set_cons_zero])
  simp (disch := omega) only [w64, tmod_in, tdiv_in]
  refine miy_e rfl rfl ?_
  go_simp
  refine (callsIn_wide.2 (half_any _ _ (by omega) (by omega))).mono ?_
  rintro e w' ⟨rfl, rfl⟩
  refine ⟨fun p hp _ => HBS.out p hp, ?_⟩
  refine miy_e rfl rfl ?_
  go_simp
  refine (callsIn_wide.2 (half_any _ _ (by omega) (by omega))).mono ?_
  rintro e w' ⟨rfl, rfl⟩
  refine ⟨fun p hp _ => HBS.out p hp, ?_⟩
  obtain ⟨A, hA⟩ : ∃ A, X / 2 = A := ⟨_, rfl⟩
  obtain ⟨D, hD⟩ : ∃ D, Y / 2 = D := ⟨_, rfl⟩
  obtain ⟨x, hx⟩ : ∃ x, halfS xv = x := ⟨_, rfl⟩
  obtain ⟨y, hy⟩ : ∃ y, halfS yv = y := ⟨_, rfl⟩
  rw [hA, hD, hx, hy]
  have kx := half_tdiv xv
  have ky := half_tdiv yv
  rw [hx] at kx
  rw [hy] at ky
  have hxb : 0 ≤ A + x ∧ A + x + 8 ≤ W ∧ 0 ≤ D + y ∧ D + y + 8 ≤ H ∧ -15 ≤ x ∧ x ≤ 15 ∧ -15 ≤ y ∧ y ≤ 15 := by
    have e8 := HNF.out.2.1
    have e9 := HNF.out.2.2.1
    split at kx <;> split at ky <;> omega
  have HXY := Lib.hid (And.intro hA (And.intro hD (And.intro hx hy)))
  have HPL := Lib.hid (And.intro hvo (And.intro hcp (And.intro hNN (And.intro hWW hHH))))
  have hW0 : 0 ≤ W := by omega
  have hcc : N ≤ cap := by omega
  have hW5 : W ≤ 352 ∧ H ≤ 288 ∧ 0 ≤ H := by omega
  clear kx ky hA hD hx hy hvo hcp hNN hWW hHH
  have hsz1 := HB0.out.size
  simp only [World.size_alloc] at hsz1
  refine miy_e rfl rfl ?_
  go_simp
  refine ⟨?fa, ?_⟩
  case fa =>
    rintro p hp hl
    simp only [List.mem_cons, List.not_mem_nil, or_false] at hp
    rcases hp with rfl | rfl | rfl | rfl
    · exact absurd (show true = false from hl) (by decide)
    · exact blk_cell ((blk_kept HR5.out.2.1 (grown_set _ _ _) (by simp <;> omega))) 0
    · exact blk_cell ((blk_kept HR5.out.2.2.2.2 (grown_set _ _ _) (by simp <;> omega))) 0
    · exact blk_cell ((blk_kept HR5.out.2.2.2.1 (grown_set _ _ _) (by simp <;> omega))) 0
  refine miy_e rfl rfl ?_
  go_simp
  refine ⟨?fa, ?_⟩
  case fa =>
    rintro p hp hl
    simp only [List.mem_cons, List.not_mem_nil, or_false] at hp
    rcases hp with rfl | rfl | rfl | rfl
    · exact absurd (show true = false from hl) (by decide)
    · exact absurd (show true = false from hl) (by decide)
    · exact blk_cell ((blk_kept (blk_kept HR5.out.2.2.2.2 (grown_set _ _ _) (by simp <;> omega)) (grown_set _ _ _) (by simp <;> omega))) 0
    · exact blk_cell ((blk_kept (blk_kept HR5.out.2.2.2.1 (grown_set _ _ _) (by simp <;> omega)) (grown_set _ _ _) (by simp <;> omega))) 0
  refine miy_e rfl rfl ?_
  go_simp
  refine ⟨?fa, ?_⟩
  case fa =>
    rintro p hp hl
    simp only [List.mem_cons, List.not_mem_nil, or_false] at hp
    rcases hp with rfl | rfl | rfl | rfl
    · exact absurd (show true = false from hl) (by decide)
    · exact absurd (show true = false from hl) (by decide)
    · exact absurd (show true = false from hl) (by decide)
    · exact blk_cell ((blk_kept (blk_kept (blk_kept HR5.out.2.2.2.1 (grown_set _ _ _) (by simp <;> omega)) (grown_set _ _ _) (by simp <;> omega)) (grown_set _ _ _) (by simp <;> omega))) 0
  refine miy_e rfl rfl ?_
  go_simp
  refine ⟨?fa, ?_⟩
  case fa =>
    rintro p hp hl
    simp only [List.mem_cons, List.not_mem_nil, or_false] at hp
    rcases hp with rfl | rfl | rfl | rfl
    · exact absurd (show true = false from hl) (by decide)
    · exact absurd (show true = false from hl) (by decide)
    · exact absurd (show true = false from hl) (by decide)
    · exact absurd (show true = false from hl) (by decide)
  refine miy_nil ?_
  have g12 := blk_kept (blk_kept (blk_kept (blk_set HR5.out.2.2.1 0 (.int .i64 A)) (grown_set _ ⟨w1.heap.size + 1, 0, none⟩ (.int .i64 D)) (by simp <;> omega)) (grown_set _ ⟨w.heap.size + 1, 0, none⟩ (.int .i64 x)) (by simp <;> omega)) (grown_set _ ⟨w.heap.size + 1 + 1, 0, none⟩ (.int .i64 y)) (by simp <;> omega)
  have g13 := blk_kept (blk_kept (blk_set (blk_kept HR5.out.2.1 (grown_set _ ⟨w1.heap.size, 0, none⟩ (.int .i64 A)) (by simp <;> omega)) 0 (.int .i64 D)) (grown_set _ ⟨w.heap.size + 1, 0, none⟩ (.int .i64 x)) (by simp <;> omega)) (grown_set _ ⟨w.heap.size + 1 + 1, 0, none⟩ (.int .i64 y)) (by simp <;> omega)
  have g8 := blk_kept (blk_set (blk_kept (blk_kept HR5.out.2.2.2.2 (grown_set _ ⟨w1.heap.size, 0, none⟩ (.int .i64 A)) (by simp <;> omega)) (grown_set _ ⟨w1.heap.size + 1, 0, none⟩ (.int .i64 D)) (by simp <;> omega)) 0 (.int .i64 x)) (grown_set _ ⟨w.heap.size + 1 + 1, 0, none⟩ (.int .i64 y)) (by simp <;> omega)
  have g9 := blk_set (blk_kept (blk_kept (blk_kept HR5.out.2.2.2.1 (grown_set _ ⟨w1.heap.size, 0, none⟩ (.int .i64 A)) (by simp <;> omega)) (grown_set _ ⟨w1.heap.size + 1, 0, none⟩ (.int .i64 D)) (by simp <;> omega)) (grown_set _ ⟨w.heap.size + 1, 0, none⟩ (.int .i64 x)) (by simp <;> omega)) 0 (.int .i64 y)
  have g20 := blk_kept (blk_kept (blk_kept (blk_kept HR5.out.1 (grown_set _ ⟨w1.heap.size, 0, none⟩ (.int .i64 A)) (by simp <;> omega)) (grown_set _ ⟨w1.heap.size + 1, 0, none⟩ (.int .i64 D)) (by simp <;> omega)) (grown_set _ ⟨w.heap.size + 1, 0, none⟩ (.int .i64 x)) (by simp <;> omega)) (grown_set _ ⟨w.heap.size + 1 + 1, 0, none⟩ (.int .i64 y)) (by simp <;> omega)
  have hB6 : Below w.heap.size w ((((V.setCell ⟨w1.heap.size, 0, none⟩ (.int .i64 A)).setCell ⟨w1.heap.size + 1, 0, none⟩ (.int .i64 D)).setCell ⟨w.heap.size + 1, 0, none⟩ (.int .i64 x)).setCell ⟨w.heap.size + 1 + 1, 0, none⟩ (.int .i64 y)) := (((HB5.out.setCell (p := ⟨w1.heap.size, 0, none⟩) hw1 _).setCell (p := ⟨w1.heap.size + 1, 0, none⟩) (Nat.le_succ_of_le hw1) _).setCell (p := ⟨w.heap.size + 1, 0, none⟩) (by simp) _).setCell (p := ⟨w.heap.size + 1 + 1, 0, none⟩) (by simp <;> omega) _
  generalize (((V.setCell ⟨w1.heap.size, 0, none⟩ (.int .i64 A)).setCell ⟨w1.heap.size + 1, 0, none⟩ (.int .i64 D)).setCell ⟨w.heap.size + 1, 0, none⟩ (.int .i64 x)).setCell ⟨w.heap.size + 1 + 1, 0, none⟩ (.int .i64 y) = Z at *
  have o6 := trivial
  have PF := Lib.hid (show Rd .u8 w (.slice (some ⟨vb, voff, none⟩) N cap) ((xs.drop (N0 + N0 / 4)).take N) ∧ ((xs.drop (N0 + N0 / 4)).take N).length = N ∧ W * H = N ∧ ∀ k u : Nat, k < 8 → u < 8 → ∀ kk : Nat, (D + y + (k : Int)) * W + (A + x + (u : Int)) = kk → kk < N → ((xs.drop (N0 + N0 / 4)).take N)[kk]?.getD 0 = xs[(fetI f g a b xv yv (8 * k + u)).toNat]?.getD 0 from by
    have e1 := HNF.out.1
    have e10 := HNF.out.2.2.2.1
    have eN := HNF.out.2.2.2.2
    obtain ⟨p1, p2, p3, p4, p5⟩ := HPL.out
    obtain ⟨hA, hD, hx, hy⟩ := HXY.out
    refine ⟨?_, by rw [List.length_take, List.length_drop, HN.out]; omega, by rw [← p4, ← p5, ← e10]; omega, ?_⟩
    · have := HR.out.sub ((N0 + N0 / 4)) N cap (by rw [HN.out]; omega) (by omega)
      rwa [p1] at this
    · intro k u hk hu kk hkk hkN
      have e : fetI f g a b xv yv (8 * k + u) = ((N0 + N0 / 4) : Nat) + kk := by
        rw [← hkk]
        have s1 : sxS b xv = x := by unfold sxS; rw [if_pos (by omega)]; exact hx
        have s2 : sxS b yv = y := by unfold sxS; rw [if_pos (by omega)]; exact hy
        have s3 : plcS f b = W := by unfold plcS; rw [if_neg (by omega), HS.out.1]; exact p4
        have s4 : plcV f X Y b = (N0 : Int) + (b - 5) * ((N0 : Int) / 4) + D * W + A := by unfold plcV; rw [if_neg (by omega), HS.out.1, HS.out.2.1, eN, p4, hD, hA]
        unfold fetI
        rw [HE.out.1, HE.out.2.1, s1, s2, s3, s4, hbb, show (((8 * k + u : Nat) : Int) / 8) = k by omega, show (((8 * k + u : Nat) : Int) % 8) = u by omega, show D + y + (k : Int) = D + ((k : Int) + y) by omega, Int.add_mul D]
        omega
      rw [e, sub_at xs _ N kk hkN]
      rfl)
  generalize (xs.drop (N0 + N0 / 4)).take N = ps at *
  have c12 := blk_cell g12 0
  have G12 := Lib.hid g12
  have G13 := Lib.hid g13
  have G8 := Lib.hid g8
  have G9 := Lib.hid g9
  have G20 := Lib.hid g20
  have HB6 := Lib.hid hB6
  clear g12 g13 g8 g9 g20 hB6 o6 c12 d12 d13 d8 d9 f12 f13 f8 f9 c0 c1 c2 c8 c9
  gi_wp2
  refine wpIn_label ?_
  gi_wp2_with (gi_at_call 75; refine (callsIn_wide.2 (rows_any _)).mono ?_; rintro e w' ⟨rfl, rfl⟩)
  have hZ : w.heap.size ≤ Z.heap.size := HB6.out.size
  obtain ⟨Z1, hZ1⟩ : ∃ Z1, Z.alloc (Obj.cells #[.slice none 0 0] 24) = Z1 := ⟨_, rfl⟩
  have zg := World.grownBy_alloc Z (Obj.cells #[.slice none 0 0] 24) none
  have zo := World.alloc_heap_new Z (Obj.cells #[.slice none 0 0] 24)
  have zs : Z1.heap.size = Z.heap.size + 1 := by rw [← hZ1]; simp
  rw [hZ1] at zg zo
  have zb : Below w.heap.size w Z1 := below_nxt HB6.out (grown_below zg)
  have zl : Lies [(w3.heap.size, Obj.cells #[.slice (some ⟨vb, voff, none⟩) N cap, .int .i64 W, .int .i64 H] 81), (w1.heap.size + 1, Obj.cells #[.int .i64 D] 3), (w1.heap.size, Obj.cells #[.int .i64 A] 3), (w.heap.size + 1 + 1, Obj.cells #[.int .i64 y] 3), (w.heap.size + 1, Obj.cells #[.int .i64 x] 3)] Z :=
    (((((Lies.nil Z).cons (p := (w.heap.size + 1, Obj.cells #[.int .i64 x] 3)) G8.out).cons (p := (w.heap.size + 1 + 1, Obj.cells #[.int .i64 y] 3)) G9.out).cons (p := (w1.heap.size, Obj.cells #[.int .i64 A] 3)) G12.out).cons (p := (w1.heap.size + 1, Obj.cells #[.int .i64 D] 3)) G13.out).cons (p := (w3.heap.size, Obj.cells #[.slice (some ⟨vb, voff, none⟩) N cap, .int .i64 W, .int .i64 H] 81)) G20.out
  have zl1 := zl.next (grown_below zg)
  obtain ⟨Bx, hBx⟩ : ∃ Bx : List (Nat × Obj), [(w3.heap.size, Obj.cells #[.slice (some ⟨vb, voff, none⟩) N cap, .int .i64 W, .int .i64 H] 81), (w1.heap.size + 1, Obj.cells #[.int .i64 D] 3), (w1.heap.size, Obj.cells #[.int .i64 A] 3), (w.heap.size + 1 + 1, Obj.cells #[.int .i64 y] 3), (w.heap.size + 1, Obj.cells #[.int .i64 x] 3)] = Bx := ⟨_, rfl⟩
  have hBl : ∀ p ∈ Bx, p.1 < Z.heap.size ∧ p.2.isCells = true := by
    rw [← hBx]
    intro p hp
    refine ⟨blk_lt (zl p hp), ?_⟩
    simp only [List.mem_cons, List.not_mem_nil, or_false] at hp
    rcases hp with rfl | rfl | rfl | rfl | rfl <;> rfl
  rw [hBx] at zl1
  have HBX := Lib.hid hBx
  have HZ1 := Lib.hid (And.intro zb (And.intro zo zl1))
  have hw3Z : w3.heap.size < Z.heap.size := blk_lt G20.out
  rw [hZ1]
  clear hZ1 zg zo zb zl zl1 hBx
  obtain ⟨L, hL⟩ : ∃ L : List Int, (List.range 64).map (fun k => xs[(fetI f g a b xv yv k).toNat]?.getD 0) = L := ⟨_, rfl⟩
  have hLl : L.length = 64 := by rw [← hL]; simp
  have HLL := Lib.hid hL
  refine wpIn_name (fun tm htm => ?_)
  have HTM := Lib.hid htm
  clear htm hL
  dsimp only
  obtain ⟨I, hI⟩ : ∃ I : Nat → World → Prop, I = fun m U => ∃ r, U.heap[Z.heap.size]? = some (.cells #[r] 24 (0, 0)) ∧ U.ownsRow (Z.heap.size + 1) 5 1 r m ((L.take m).map (Value.int .u8)) ∧ Lies Bx U ∧ Below w.heap.size w U := ⟨_, rfl⟩
  have HI := Lib.hid hI
  have hIA : ∀ m, Ab Z1.heap.size (fun _ => False) (fun _ U => I m U) := fun m => by
    rw [HI.out]
    refine Ab.ex (fun r => ?_)
    refine (Ab.blk (b := fun _ => Z.heap.size) (o := fun _ => .cells #[r] 24 (0, 0)) (fun _ => rfl) (fun _ h => h)).and ((Ab.owns (fun _ => m) (fun _ => (L.take m).map (Value.int .u8)) (fun _ h => h)).and (Ab.and ?_ (Ab.below (Nat.le_refl _) (by omega) (fun _ h => h.elim))))
    intro k W W' row hj hg hr p hp
    exact blk_kept (hj p hp) hg (fun e => by
      rcases hr _ e.symm with h | ⟨_, o, h1, h2⟩
      · exact h
      · rw [hj p hp] at h1; cases h1; rw [(hBl p hp).2] at h2; cases h2)
  have hI0 : I 0 Z1 := by
    rw [HI.out]
    exact ⟨_, HZ1.out.2.1, World.ownsRow_nil _ _ _ _, HZ1.out.2.2, HZ1.out.1⟩
  clear hI
  have hev : (Act.mk tm []).eval (.tmp 95) = .func (.func 95) #[] #[] := by rw [HTM.out]; rfl
  refine range_outer (gf := 95) (lb := #[]) hev (enters_of Try.func95 (by kernel_rfl) rfl)
    (rows_seq (fun k => Z.heap.size ≤ k) (fun _ => False) Z1) (Below.refl _ _) (fun k x hx => by obtain ⟨_, rfl⟩ := rowsA_inv hx; rfl) (fun _ h => h.elim)
    (fun k U => I (8 * k) U) (fun c k U => False) (fun k W W' row hj hg hr => hIA _ k W W' row hj hg hr) (fun _ => Ab.never _ _) hI0
    (fun k a' U => a' = { tmps := (tm.setIfInBounds 96 (.int .i64 k)).setIfInBounds 22 (.int .i64 k), defers := [] } ∧ I (8 * k) U) ?hAft ?assign ?body ?done ?stop
  case hAft =>
    rintro k a' j U U' row ⟨h1, h2⟩ hg hr
    exact ⟨h1, hIA _ k U U' row h2 hg hr⟩
  case assign =>
    rintro l' k x U hx hi
    obtain ⟨hk8, rfl⟩ := rowsA_inv hx
    rw [HTM.out]
    gi_wp2
    exact ⟨KB.refl _ _ _, hi⟩
  case done =>
    rintro U hi hD
    rw [HI.out, rowsA_len] at hi
    obtain ⟨r, ho, hown, _, hbel⟩ := hi
    have HO := Lib.hid ho
    have HW := Lib.hid hown
    have HBL := Lib.hid hbel
    rw [zs] at hD
    have HD := Lib.hid hD
    have c21 := blk_cell ho 0
    simp only [List.getElem?_toArray, List.getElem?_cons_zero] at c21
    clear ho hown hbel hD
    rw [HTM.out]
    gi_wp2
    refine ⟨by simp, .inl ⟨_, _, rfl, run_takeDeferred HD.out, ?_⟩⟩
    have hp := grownBy_putObj' U (Z.heap.size + 1) (.deferred none)
    refine ⟨_, by simp [results, Try.results23, go_sem], ⟨r, rfl, ?_⟩, HBL.out.grown hp (by have := HBL.out.size; omega) (fun j e => by cases e; omega)⟩
    have h1 := owns_mono HW.out (show w.heap.size ≤ Z.heap.size + 1 by omega)
    have hLt : (L.take 64) = L := List.take_of_length_le (by omega)
    rw [hLt] at h1
    rw [HLL.out]
    exact h1.kept hp (by
      by_cases hn : r.ownBlock = none
      · exact .inl hn
      · refine .inr (fun e => ?_)
        obtain ⟨o, h3, h4⟩ := owns_cells HW.out e
        rw [HD.out] at h3; cases h3; cases h4)
  case stop =>
    rintro c k U _ _ h _
    exact h.elim
  case body =>
    rintro l' k x a' U hx hl hr ⟨rfl, hi⟩
    obtain ⟨hk8, rfl⟩ := rowsA_inv hx
    have HI8 := Lib.hid hi
    clear hi hx hr
    rw [HTM.out]
    gi_wp2
    gi_loopw [97] (fun i wr => ∃ u : Nat, u ≤ 8 ∧ i = .int .i64 u ∧ I (8 * k + u) wr ∧ KB (fun j => Z.heap.size ≤ j) Z1.heap.size U wr) (fun i _ => 10 - (intOf i).toNat)
    case atStart => exact ⟨0, by omega, rfl, HI8.out, KB.refl _ _ _⟩
    case round =>
      obtain ⟨u, hu, rfl, hiu, hkb⟩ := hrel
      have HIU := Lib.hid hiu
      have HKB := Lib.hid hkb
      rw [HI.out] at hiu
      obtain ⟨r, ho, hown, hbx, hbel⟩ := hiu
      have HO := Lib.hid ho
      have HW := Lib.hid hown
      have HX := Lib.hid hbx
      have HBL := Lib.hid hbel
      rw [← HBX.out] at hbx
      have HX5 := Lib.hid hbx
      clear ho hown hbx hbel hkb
      by_cases hlt : u < 8
      · have hul : (u : Int) < 8 := by omega
        have c20 := blk_cell HX5.out.head 0
        have c21 := blk_cell HX5.out.head 1
        have c22 := blk_cell HX5.out.head 2
        have c13 := blk_cell HX5.out.tail.head 0
        have c12 := blk_cell HX5.out.tail.tail.head 0
        have c9 := blk_cell HX5.out.tail.tail.tail.head 0
        have c8 := blk_cell HX5.out.tail.tail.tail.tail.head 0
        simp only [List.getElem?_toArray, List.getElem?_cons_zero, List.getElem?_cons_succ] at c20 c21 c22 c13 c12 c9 c8
        have hin : decide (0 ≤ A + x + (u : Int) ∧ A + x + (u : Int) < W ∧ 0 ≤ D + y + (k : Int) ∧ D + y + (k : Int) < H) = true := by simp only [decide_eq_true_eq]; omega
        gi_wp2_with (gi_at_call 76; refine (callsIn_wide.2 (in_any _ _ _ _ _ _)).mono ?_; rw [hin]; rintro e w4 ⟨rfl, hb4⟩)
        have q1 : (D + y + (k : Int)) * W ≤ (H - 1) * W := Int.mul_le_mul_of_nonneg_right (by omega) hW0
        have q2 : (H - 1) * W = W * H - W := by rw [Int.sub_mul, Int.one_mul, Int.mul_comm]
        have q3 : 0 ≤ (D + y + (k : Int)) * W := Int.mul_nonneg (by omega) hW0
        have q4 := PF.out.2.2.1
        obtain ⟨kk, hkk, hkN⟩ : ∃ kk : Nat, (D + y + (k : Int)) * W + (A + x + (u : Int)) = kk ∧ kk < N := ⟨((D + y + (k : Int)) * W + (A + x + (u : Int))).toNat, by omega, by omega⟩
        have hval : ps[kk]?.getD 0 = L[8 * k + u]?.getD 0 := by
          rw [← HLL.out, List.getElem?_map, List.getElem?_range (by omega), Option.map_some, Option.getD_some]
          exact PF.out.2.2.2 k u hk8 hlt kk hkk hkN
        have rdp := PF.out.1
        have hln := PF.out.2.1
        have HQ := Lib.hid (And.intro hkk (And.intro hval (And.intro rdp hln)))
        clear q1 q2 q3 q4 hkk hval rdp hln hin c20 c21 c22 c13 c12 c9 c8
        obtain ⟨V4, hV4⟩ : ∃ V4, w4.drew = V4 := ⟨_, rfl⟩
        have hg4 : wr.grownBy V4 none := by rw [← hV4]; exact (below_grown hb4 none).trans (grown_drew _ none)
        have o4 := blk_kept HO.out hg4 (by simp)
        have x4 := HX5.out.next (grown_below hg4)
        have d20 := blk_cell x4.head 0
        have d21 := blk_cell x4.head 1
        have d22 := blk_cell x4.head 2
        have d13 := blk_cell x4.tail.head 0
        have d12 := blk_cell x4.tail.tail.head 0
        have d9 := blk_cell x4.tail.tail.tail.head 0
        have d8 := blk_cell x4.tail.tail.tail.tail.head 0
        have dr := blk_cell o4 0
        simp only [List.getElem?_toArray, List.getElem?_cons_zero, List.getElem?_cons_succ] at d20 d21 d22 d13 d12 d9 d8 dr
        have HG4 := Lib.hid hg4
        have HO4 := Lib.hid o4
        clear hg4 o4 x4 hb4
        refine wpIn_region_miy [(12, fun w' => w'.cell? ⟨w3.heap.size, 0, none⟩ = some (.slice (some ⟨vb, voff, none⟩) N cap) ∧ w'.cell? ⟨w3.heap.size, 1, none⟩ = some (.int .i64 W) ∧ w'.cell? ⟨w3.heap.size, 2, none⟩ = some (.int .i64 H) ∧ w'.cell? ⟨w1.heap.size, 0, none⟩ = some (.int .i64 A) ∧ w'.cell? ⟨w.heap.size + 1, 0, none⟩ = some (.int .i64 x) ∧ w'.cell? ⟨w1.heap.size + 1, 0, none⟩ = some (.int .i64 D) ∧ w'.cell? ⟨w.heap.size + 1 + 1, 0, none⟩ = some (.int .i64 y)), (14, fun w' => w'.cell? ⟨Z.heap.size, 0, none⟩ = some r)]
          [(0, some 14), (1, some 12), (2, some 12), (3, some 12), (4, some 12), (5, some 12), (6, some 12), (7, some 12), (8, some 12), (9, some 12), (10, some 12), (11, some 12), (12, none), (13, none), (14, none), (15, none)] (fun _ => trivial) (by kernel_rfl) (by kernel_rfl) rfl (by kernel_rfl) ?hB ?_
        case hB =>
          rw [hV4]
          intro p hp
          simp only [List.mem_cons, List.not_mem_nil, or_false] at hp
          rcases hp with rfl | rfl
          · exact ⟨d20, d21, d22, d12, d8, d13, d9⟩
          · exact dr
        rw [hV4]
        clear hV4 d20 d21 d22 d13 d12 d9 d8 dr
        refine miy_q _ (List.Mem.tail _ (List.Mem.head _)) rfl rfl (fun w' hB => by (try dsimp only at hB); go_simp; rfl) ?_; simp only [Act.put, List.setIfInBounds_toArray, List.set_cons_succ, List.set_cons_zero]
        iterate 11 (refine miy_q _ (List.Mem.head _) rfl rfl (fun w' hB => by (try dsimp only at hB); obtain ⟨e0, e1, e2, e3, e4, e5, e6⟩ := hB; go_simp; rfl) ?_; simp only [Act.put, List.setIfInBounds_toArray, List.set_cons_succ, List.set_cons_zero])
        simp (disch := omega) only [w64, tmod_in, tdiv_in]
        refine miy_e rfl rfl ?_
        go_simp
        have hrd4 : Rd .u8 V4 (.slice (some ⟨vb, voff, none⟩) N cap) ps := HQ.out.2.2.1.below (below_nxt HBL.out (grown_below HG4.out))
        have hat := at_any (.slice (some ⟨vb, voff, none⟩) N cap) ps W H (A + x + (u : Int)) (D + y + (k : Int)) kk V4 hrd4 (by rw [HQ.out.2.2.2]; exact hkN) HQ.out.1 hW0 (by omega) (by omega) (by omega) (by omega) (by omega)
        rw [HQ.out.2.1] at hat
        refine (callsIn_wide.2 hat).mono ?_
        clear hat hrd4
        rintro e w5 ⟨rfl, hb5⟩
        generalize hel : L[8 * k + u]?.getD 0 = el at *
        have hg5 : wr.grownBy w5 none := HG4.out.trans (below_grown hb5 none)
        have o5 := blk_kept HO.out hg5 (by simp)
        have HG5 := Lib.hid hg5
        have HO5 := Lib.hid o5
        have HEL := Lib.hid hel
        clear hb5 hg5 o5 hel
        refine ⟨?fa, ?_⟩
        case fa =>
          rintro p hp hl
          simp only [List.mem_cons, List.not_mem_nil, or_false] at hp
          rcases hp with rfl | rfl
          · exact absurd (show true = false from hl) (by decide)
          · exact blk_cell HO5.out 0
        refine miy_e rfl rfl ?_
        go_simp
        have hg6 := World.grownBy_alloc w5 (Obj.cells #[.int .u8 el] 5) none
        have o6 := blk_kept HO5.out hg6 (by simp)
        have c6 := cell_alloc1 w5 (.int .u8 el) 5
        have HG6 := Lib.hid (HG5.out.trans hg6)
        have HO6 := Lib.hid o6
        refine ⟨?fa, ?_⟩
        case fa =>
          rintro p hp hl
          simp only [List.mem_cons, List.not_mem_nil, or_false] at hp
          rcases hp with rfl | rfl
          · exact absurd (show true = false from hl) (by decide)
          · exact blk_cell HO6.out 0
        have hown6 := HW.out.kept HG6.out (by by_cases hn : r.ownBlock = none; exact .inl hn; exact .inr hn)
        have hsz6 := HG6.out.size
        have hszr : Z.heap.size + 1 ≤ wr.heap.size := by have := blk_lt HO.out; omega
        refine miy_e rfl rfl (opIn_app1 Try.elByte rfl rfl hown6 c6 rfl (by omega) (by omega) ?_)
        intro g' cap' w7 hown7 hgrow7 hat7
        have HO7 := Lib.hid (blk_kept HO6.out hgrow7 (fun e => by have := (hown6.lt _ e.symm).1; omega))
        have HW7 := Lib.hid hown7
        have HG7 := Lib.hid hgrow7
        have HW6 := Lib.hid hown6
        clear hown7 hgrow7 hown6 c6 hg6 o6
        refine ⟨?fa, ?_⟩
        case fa =>
          rintro p hp hl
          simp only [List.mem_cons, List.not_mem_nil, or_false] at hp
          rcases hp with rfl | rfl
          · exact absurd (show true = false from hl) (by decide)
          · exact absurd (show true = false from hl) (by decide)
        have c7 := blk_cell HO7.out 0
        have f7 := blk_free HO7.out 0
        simp only [List.getElem?_toArray, List.getElem?_cons_zero] at c7
        refine miy_e rfl rfl ?_
        go_simp
        refine ⟨?fa, ?_⟩
        case fa =>
          rintro p hp hl
          simp only [List.mem_cons, List.not_mem_nil, or_false] at hp
          rcases hp with rfl | rfl
          · exact absurd (show true = false from hl) (by decide)
          · exact absurd (show true = false from hl) (by decide)
        refine miy_nil ?_
        gi_wp2
        go_roundw
        case rel =>
          refine ⟨u + 1, by omega, by go_num, ?_, ?_⟩
          · rw [HI.out]
            have hle : L[8 * k + u]? = some el := by
              have h := HEL.out
              rw [List.getElem?_eq_getElem (by omega), Option.getD_some] at h
              rw [List.getElem?_eq_getElem (by omega), h]
            have htk : (L.take (8 * k + (u + 1))).map (Value.int .u8) = (L.take (8 * k + u)).map (Value.int .u8) ++ [.int .u8 el] := by
              rw [← Nat.add_assoc, List.take_add_one, List.map_append, hle]
              rfl
            refine ⟨_, blk_set HO7.out 0 _, ?_, fun p hp => ?_, ?_⟩
            · rw [htk]
              exact HW7.out.kept (grown_set _ _ _) (.inr (fun e => by have := (HW7.out.lt _ e).1; simp at this; omega))
            · have hp1 := (hBl p hp).1
              exact blk_kept (blk_kept (blk_kept (HX.out p hp) HG6.out (by simp)) HG7.out (fun e => by have := (HW6.out.lt _ e.symm).1; omega)) (grown_set _ _ _) (by simp; omega)
            · have hb6 := below_nxt HBL.out (grown_below HG6.out)
              exact (hb6.grown HG7.out hb6.size (fun j e => by have := (HW6.out.lt _ e).1; omega)).setCell (p := ⟨Z.heap.size, 0, none⟩) hZ _
          · refine ((HKB.out.trans (KB.none HG6.out)).trans (KB.row HG7.out (fun j e => ⟨by have := (HW6.out.lt _ e).1; omega, owns_cells HW6.out e⟩))).trans (KB.row (grown_set _ _ _) (fun j e => ?_))
            cases e
            exact ⟨Nat.le_refl _, _, HO7.out, rfl⟩
        case measure => simp [intOf]; omega
      · have e : u = 8 := by omega
        subst e
        gi_wp2
        exact ⟨HKB.out, HIU.out⟩
end Go.Proofs.Ytcieggaihelacaa
