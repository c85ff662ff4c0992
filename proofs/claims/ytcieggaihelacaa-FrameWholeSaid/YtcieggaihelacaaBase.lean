/- General laws of the walk that the other texts of this claim use: an append onto a slice of the call's own, reads of a row of cells, what lies behind. No condition but those in the statements. -/
import Derived.Test.YtcieggaihelacaaProg
import Derived.WalkKit
import Derived.IntWalk
import Derived.Lib.Hide
import Derived.Maps.AppendAt
import Derived.Maps.OwnIn
import Derived.Deep.QuietTactic
import Derived.BigQuiet
import Derived.RangeFuncNested
import Derived.RangeFuncBound
import Derived.RangeFuncCalls
import Derived.RangeFuncLeaves
import Derived.Shelf.Abstract
import Derived.OwnWalkIn
import Derived.TacticsInMore
import Derived.LoopNIn
import Derived.LoopIn
import Derived.Lib.AppendZeros
import Derived.Laws.AppendOwnNone
import Derived.StillTailTactics
set_option linter.unusedSimpArgs false
set_option linter.unusedVariables false
namespace Go.Proofs.Ytcieggaihelacaa
open Go.RowKit
theorem ret_int {k : IntKind} {a b : Int} (h : a = b) : Ending.returned (.int k a) = .returned (.int k b) := by rw [h]

/-- One element type's row of the table, as the laws want it. -/
structure ElemI (P : Program) (t e : TypeId) (z : Value) (bytes : Nat) : Prop where
  under : P.underlying t = some (.slice e)
  info : (P.info? e).map (fun i => (i.zero, i.size, i.bytes)) = some (some z, 1, bytes)
  one : z.cells.size = 1

section
variable {P : Program} {ops : Array Oper} {rest : List Oper} {Q : Exit → Act → World → Prop} {a : Act} {w : World}

/-- append(s, u): s a slice of the call's own. -/
theorem wp_app1 {dst : Option Tmp} {ty t e : TypeId} {pos : String} {aft : Array Edge} {s x : Operand} {z : Value} {bytes base n g : Nat} {v u : Value} {xs : List Value}
    (E : ElemI P t e z bytes) (hs : a.eval s = v) (hx : a.eval x = .slice (some ⟨g, 0, none⟩) 1 1) (hown : w.ownsRow base e 1 v n xs) (hc : w.cell? ⟨g, 0, none⟩ = some u) (h1 : u.oneCell' = true)
    (hn : (n + 1) * (bytes + 1) ≤ 140737488355328) (hbase : base ≤ w.heap.size)
    (h : ∀ g' cap' w', w'.ownsRow base e 1 (.slice (some ⟨g', 0, none⟩) (n + 1) cap') (n + 1) (xs ++ [u]) → w.grownBy w' v.ownBlock → (v.ownBlock = some g' ∨ g' = w.heap.size) → wpList P ops Q rest (a.put dst (.slice (some ⟨g', 0, none⟩) (n + 1) cap')) w') :
    wpList P ops Q (⟨dst, .call { callee := .builtin .append, args := #[s, x], argTypes := #[t, t] }, ty, pos, aft, none⟩ :: rest) a w := by
  obtain ⟨i, hi, hz0, hz1, hz2⟩ := info_parts E.info
  have hn1 : n + 1 ≤ 140737488355328 := Nat.le_trans (Nat.le_mul_of_pos_right _ (by omega)) hn
  have hn2 : (n + 1) * bytes ≤ 140737488355328 := Nat.le_trans (Nat.mul_le_mul_left _ (by omega)) hn
  refine wpList_append_own_at w rfl s x t rfl base e i z 1 bytes E.under hi hz0 hz1 hz2 E.one (by decide) v n xs hs hown ⟨g, 0, none⟩ 1 1 [u] hx rfl ?_ ?_ (by simp [maxLen]; omega) hn2 hbase ?_
  · intro j y hj
    cases j with
    | zero => simp at hj; subst hj; simpa [Addr.add] using hc
    | succ j => simp at hj
  · intro y hy; simp at hy; subst hy; exact h1
  · intro v' w' hown' hgrow hnil hat
    obtain ⟨g', cap', rfl⟩ := ownsRow_succ hown'
    refine h g' cap' w' hown' hgrow ?_
    rcases hat with hat | hat
    · exact Or.inl hat.symm
    · exact Or.inr (by simpa [Value.ownBlock] using hat)
end

section
variable {F : Fence} {nF : Nat} {P : Program} {ops : Array Oper} {rest : List Oper} {Q : Exit → Act → World → Prop} {a : Act} {w : World}
/-- The same inside a fence. -/
theorem wpIn_app1 {dst : Option Tmp} {ty t e : TypeId} {pos : String} {aft : Array Edge} {s x : Operand} {z : Value} {bytes base n g : Nat} {v u : Value} {xs : List Value}
    (E : ElemI P t e z bytes) (hs : a.eval s = v) (hx : a.eval x = .slice (some ⟨g, 0, none⟩) 1 1) (hown : w.ownsRow base e 1 v n xs) (hc : w.cell? ⟨g, 0, none⟩ = some u) (h1 : u.oneCell' = true)
    (hn : (n + 1) * (bytes + 1) ≤ 140737488355328) (hbase : base ≤ w.heap.size)
    (h : ∀ g' cap' w', w'.ownsRow base e 1 (.slice (some ⟨g', 0, none⟩) (n + 1) cap') (n + 1) (xs ++ [u]) → w.grownBy w' v.ownBlock → (v.ownBlock = some g' ∨ g' = w.heap.size) → wpListIn F nF P ops Q rest (a.put dst (.slice (some ⟨g', 0, none⟩) (n + 1) cap')) w') :
    wpListIn F nF P ops Q (⟨dst, .call { callee := .builtin .append, args := #[s, x], argTypes := #[t, t] }, ty, pos, aft, none⟩ :: rest) a w := by
  obtain ⟨i, hi, hz0, hz1, hz2⟩ := info_parts E.info
  have hn1 : n + 1 ≤ 140737488355328 := Nat.le_trans (Nat.le_mul_of_pos_right _ (by omega)) hn
  have hn2 : (n + 1) * bytes ≤ 140737488355328 := Nat.le_trans (Nat.mul_le_mul_left _ (by omega)) hn
  refine wpListIn_append_own_at w rfl s x t rfl base e i z 1 bytes E.under hi hz0 hz1 hz2 E.one (by decide) v n xs hs hown ⟨g, 0, none⟩ 1 1 [u] hx rfl ?_ ?_ (by simp [maxLen]; omega) hn2 hbase ?_
  · intro j y hj
    cases j with
    | zero => simp at hj; subst hj; simpa [Addr.add] using hc
    | succ j => simp at hj
  · intro y hy; simp at hy; subst hy; exact h1
  · intro v' w' hown' hgrow hnil hat
    obtain ⟨g', cap', rfl⟩ := ownsRow_succ hown'
    refine h g' cap' w' hown' hgrow ?_
    rcases hat with hat | hat
    · exact Or.inl hat.symm
    · exact Or.inr (by simpa [Value.ownBlock] using hat)
end

theorem cell_alloc1 (w : World) (u : Value) (t : TypeId) : (w.alloc (.cells #[u] t)).cell? ⟨w.heap.size, 0, none⟩ = some u := by
  have h := World.alloc_heap_new w (.cells #[u] t)
  unfold World.cell?
  rw [h]
  rfl
/-- The slice v reads as the numbers xs (of kind k). -/
def Rd (k : IntKind) (w : World) (v : Value) (xs : List Int) : Prop :=
  (v = .slice none 0 0 ∧ xs = []) ∨ ∃ b off cap, v = .slice (some ⟨b, off, none⟩) xs.length cap ∧ b < w.heap.size ∧ xs.length ≤ cap ∧ xs.length ≤ 140737488351232 ∧ ∀ i : Nat, i < xs.length → w.cell? ⟨b, off + i, none⟩ = some (.int k (xs[i]?.getD 0))

theorem Rd.of_owns {k : IntKind} {w : World} {base : Nat} {e : TypeId} {v : Value} {xs : List Int} (h : w.ownsRow base e 1 v xs.length (xs.map (Value.int k))) (hl : xs.length ≤ 140737488351232) : Rd k w v xs := by
  rcases h.2 with ⟨rfl, h0⟩ | ⟨g, cap, cur, rfl, hb, hh, hnc, hcm, hs, ht⟩
  · exact Or.inl ⟨rfl, List.eq_nil_of_length_eq_zero h0⟩
  · refine Or.inr ⟨g, 0, cap, rfl, (Array.getElem?_eq_some_iff.1 hh).1, hnc, hl, fun i hi => ?_⟩
    have hc : cur[i]? = some (Value.int k (xs[i]?.getD 0)) := by
      have h1 : (cur.toList.take (xs.length * 1))[i]? = (xs.map (Value.int k))[i]? := by rw [ht]
      rw [List.getElem?_take_of_lt (by omega), Array.getElem?_toList] at h1
      rw [h1, List.getElem?_map]
      simp [hi]
    unfold World.cell?
    rw [hh]
    simpa using hc

theorem Rd.kept {k : IntKind} {w w' : World} {v : Value} {xs : List Int} (h : Rd k w v xs) (hs : w.heap.size ≤ w'.heap.size) (hb : ∀ b, v.ownBlock = some b → w'.heap[b]? = w.heap[b]?) : Rd k w' v xs := by
  rcases h with h | ⟨b, off, cap, rfl, hlt, hc, hl, hh⟩
  · exact Or.inl h
  · refine Or.inr ⟨b, off, cap, rfl, by omega, hc, hl, fun i hi => ?_⟩
    exact (World.cell?_of_block (w := w) (a := ⟨b, off + i, none⟩) (hb b rfl)).trans (hh i hi)
theorem Rd.block {k : IntKind} {w : World} {v : Value} {xs : List Int} (h : Rd k w v xs) : ∀ b, v.ownBlock = some b → b < w.heap.size := by
  intro b hb
  rcases h with ⟨rfl, _⟩ | ⟨b', off, cap, rfl, hlt, _⟩
  · simp [Value.ownBlock] at hb
  · simp [Value.ownBlock] at hb; omega
theorem Rd.below {k : IntKind} {w w' : World} {v : Value} {xs : List Int} (h : Rd k w v xs) (hb : Below w.heap.size w w') : Rd k w' v xs :=
  h.kept hb.size (fun b e => hb.block b (h.block b e))
theorem Rd.len {k : IntKind} {w : World} {v : Value} {xs : List Int} (h : Rd k w v xs) : xs.length ≤ 140737488351232 := by
  rcases h with ⟨rfl, rfl⟩ | ⟨b', off, cap, rfl, _, _, hl, _⟩
  · simp
  · exact hl
theorem Rd.form {k : IntKind} {w : World} {v : Value} {xs : List Int} (h : Rd k w v xs) : ∃ a cap, v = .slice a xs.length cap := by
  rcases h with ⟨rfl, rfl⟩ | ⟨b', off, cap, rfl, _⟩
  · exact ⟨none, 0, rfl⟩
  · exact ⟨_, _, rfl⟩
/-- The place of the first x; -1: it is not there. -/
def idxI (x : Int) (xs : List Int) : Int := if x ∈ xs then (xs.idxOf x : Int) else -1
theorem idxI_found {x : Int} {xs : List Int} {k : Nat} (hk : k < xs.length) (hn : ∀ j, j < k → xs[j]?.getD 0 ≠ x) (hx : xs[k]?.getD 0 = x) : idxI x xs = k := by
  have hx' : xs[k] = x := by simpa [hk] using hx
  have hm : x ∈ xs := by rw [← hx']; exact List.getElem_mem hk
  unfold idxI
  rw [if_pos hm]
  have h1 := List.idxOf_lt_length_of_mem hm
  have h2 : xs[xs.idxOf x] = x := List.getElem_idxOf h1
  rcases Nat.lt_trichotomy (xs.idxOf x) k with h | h | h
  · exact absurd (by simp [h1, h2]) (hn _ h)
  · rw [h]
  · exfalso
    have := List.not_of_lt_findIdx (p := (· == x)) (xs := xs) (i := k) (by simpa [List.idxOf] using h)
    simp [hx'] at this
theorem idxI_none {x : Int} {xs : List Int} (hn : ∀ j, j < xs.length → xs[j]?.getD 0 ≠ x) : idxI x xs = -1 := by
  unfold idxI
  rw [if_neg]
  intro hm
  obtain ⟨j, hj, he⟩ := List.getElem_of_mem hm
  exact hn j hj (by simp [hj, he])
/-! ### A block that holds a row of cells, wholly known to lie there -/
theorem blk_cell {w : World} {g : Nat} {cur : Array Value} {e : TypeId} {fz : Nat × Nat} (h : w.heap[g]? = some (.cells cur e fz)) (i : Nat) : w.cell? ⟨g, i, none⟩ = cur[i]? := by
  unfold World.cell?
  rw [h]
  rfl
theorem blk_free {w : World} {g : Nat} {cur : Array Value} {e : TypeId} (h : w.heap[g]? = some (.cells cur e (0, 0))) (i : Nat) : w.frozen? ⟨g, i, none⟩ = false := by
  unfold World.frozen?
  rw [h]
  simp
theorem blk_lt {w : World} {g : Nat} {o : Obj} (h : w.heap[g]? = some o) : g < w.heap.size := (Array.getElem?_eq_some_iff.1 h).1
theorem blk_set {w : World} {g : Nat} {cur : Array Value} {e : TypeId} {fz : Nat × Nat} (h : w.heap[g]? = some (.cells cur e fz)) (i : Nat) (u : Value) :
    (w.setCell ⟨g, i, none⟩ u).heap[g]? = some (.cells (cur.setIfInBounds i u) e fz) := by
  obtain ⟨hlt, hk⟩ := Array.getElem?_eq_some_iff.1 h
  show (w.heap.modify g _)[g]? = _
  rw [Array.getElem?_eq_getElem (by rw [Array.size_modify]; exact hlt), Array.getElem_modify_self, hk]
  rfl
theorem grown_set (w : World) (a : Addr) (u : Value) : w.grownBy (w.setCell a u) (some a.block) :=
  ⟨rfl, rfl, rfl, (KeepsWalks.setCell w _ u).size, fun k _ hk => Below.heap_setCell _ _ _ k (fun e => hk (by rw [e]))⟩
theorem blk_kept {w w' : World} {g : Nat} {o : Obj} {row : Option Nat} (h : w.heap[g]? = some o) (hg : w.grownBy w' row) (hne : some g ≠ row) : w'.heap[g]? = some o := (hg.block g (blk_lt h) hne).trans h
theorem below_grown {w w' : World} (h : Below w.heap.size w w') (row : Option Nat) : w.grownBy w' row := ⟨h.os, h.tape, h.output, h.size, fun k hk _ => h.block k hk⟩
theorem grown_below {w w' : World} (h : w.grownBy w' none) : Below w.heap.size w w' := ⟨h.os, h.tape, h.output, h.size, fun k hk => h.block k hk (by simp)⟩
theorem owns_blk {w : World} {base : Nat} {e : TypeId} {v : Value} {n : Nat} {xs : List Value} (h : w.ownsRow base e 1 v n xs) :
    (v = .slice none 0 0 ∧ n = 0 ∧ xs = []) ∨ ∃ g cap cur, v = .slice (some ⟨g, 0, none⟩) n cap ∧ base ≤ g ∧ w.heap[g]? = some (.cells cur e (0, 0)) ∧ n ≤ cap ∧ cap ≤ maxLen ∧ cur.size = cap ∧ cur.toList.take n = xs := by
  rcases h.2 with ⟨rfl, h0⟩ | ⟨g, cap, cur, rfl, hb, hh, hnc, hcm, hs, ht⟩
  · exact Or.inl ⟨rfl, h0, List.eq_nil_of_length_eq_zero (by rw [h.1, h0])⟩
  · exact Or.inr ⟨g, cap, cur, rfl, hb, hh, hnc, hcm, by simpa using hs, by simpa using ht⟩
/-- append(s, ys...): s a slice of the call's own, ys read as numbers. -/
theorem wp_appN {P : Program} {ops : Array Oper} {rest : List Oper} {Q : Exit → Act → World → Prop} {a : Act} {w : World} {dst : Option Tmp} {ty t e : TypeId} {pos : String} {aft : Array Edge} {s x : Operand} {z : Value} {bytes base n : Nat} {v u : Value} {xs : List Value} {kd : IntKind} {ys : List Int}
    (E : ElemI P t e z bytes) (hs : a.eval s = v) (hx : a.eval x = u) (hown : w.ownsRow base e 1 v n xs) (hu : Rd kd w u ys)
    (hn : (n + ys.length) * (bytes + 1) ≤ 140737488355328) (hbase : base ≤ w.heap.size)
    (h : ∀ a' cap' w', w'.ownsRow base e 1 (.slice a' (n + ys.length) cap') (n + ys.length) (xs ++ ys.map (Value.int kd)) → w.grownBy w' v.ownBlock → (v.ownBlock = (Value.slice a' (n + ys.length) cap').ownBlock ∨ (Value.slice a' (n + ys.length) cap').ownBlock = some w.heap.size) → wpList P ops Q rest (a.put dst (.slice a' (n + ys.length) cap')) w') :
    wpList P ops Q (⟨dst, .call { callee := .builtin .append, args := #[s, x], argTypes := #[t, t] }, ty, pos, aft, none⟩ :: rest) a w := by
  obtain ⟨i, hi, hz0, hz1, hz2⟩ := info_parts E.info
  have hn1 : n + ys.length ≤ 140737488355328 := Nat.le_trans (Nat.le_mul_of_pos_right _ (by omega)) hn
  have hn2 : (n + ys.length) * bytes ≤ 140737488355328 := Nat.le_trans (Nat.mul_le_mul_left _ (by omega)) hn
  rcases hu with ⟨rfl, rfl⟩ | ⟨b, off, cap, rfl, hlt, hcap, hlen, hc⟩
  · refine wpList_append_own_none rfl s x t rfl base e i 1 E.under hi v n xs hs hown hx ?_
    rcases owns_blk hown with ⟨rfl, rfl, rfl⟩ | ⟨g, cap, cur, rfl, _⟩
    · exact h none 0 w (by simpa using hown) (World.grownBy.refl _ _) (Or.inl rfl)
    · exact h (some ⟨g, 0, none⟩) cap w (by simpa using hown) (World.grownBy.refl _ _) (Or.inl rfl)
  · refine wpList_append_own_at w rfl s x t rfl base e i z 1 bytes E.under hi hz0 hz1 hz2 E.one (by decide) v n xs hs hown ⟨b, off, none⟩ ys.length cap (ys.map (Value.int kd)) hx (by simp) ?_ ?_ (by simp [maxLen]; omega) hn2 hbase ?_
    · intro j y hj
      have hjl : j < ys.length := by
        have := (List.getElem?_eq_some_iff.1 hj).1
        simpa using this
      have h1 := hc j hjl
      rw [List.getElem?_map] at hj
      simp [hjl] at hj h1
      subst hj
      unfold Addr.add
      split
      · rename_i e0; subst e0; exact h1
      · exact h1
    · intro y hy
      obtain ⟨q, _, rfl⟩ := List.mem_map.1 hy
      rfl
    · intro v' w' hown' hgrow hnil hat
      rcases owns_blk hown' with ⟨rfl, e0, _⟩ | ⟨g, cap', cur, rfl, _⟩
      · have e1 : n = 0 := by omega
        have e2 : ys.length = 0 := by omega
        have := h none 0 w' (by rw [e1, e2] at hown' ⊢; exact hown') hgrow (by rw [e1, e2]; exact hat.imp Eq.symm id)
        rw [e1, e2] at this; exact this
      · exact h _ _ w' hown' hgrow (hat.imp Eq.symm id)
theorem Rd.solid {k : IntKind} {w : World} {v : Value} {xs : List Int} (h : Rd k w v xs) (hp : 0 < xs.length) :
    ∃ b off cap, v = .slice (some ⟨b, off, none⟩) xs.length cap ∧ b < w.heap.size ∧ xs.length ≤ cap ∧ ∀ i : Nat, i < xs.length → w.cell? ⟨b, off + i, none⟩ = some (.int k (xs[i]?.getD 0)) := by
  rcases h with ⟨_, rfl⟩ | ⟨b, off, cap, rfl, h1, h2, _, h3⟩
  · simp at hp
  · exact ⟨b, off, cap, rfl, h1, h2, h3⟩
theorem Rd.alloc {k : IntKind} {w : World} {v : Value} {xs : List Int} (h : Rd k w v xs) (o : Obj) : Rd k (w.alloc o) v xs := h.below ((Below.refl _ w).alloc (Nat.le_refl _) o)
theorem Rd.new1 (k : IntKind) (w : World) (x : Int) (t : TypeId) : Rd k (w.alloc (.cells #[.int k x] t)) (.slice (some ⟨w.heap.size, 0, none⟩) 1 1) [x] := by
  refine Or.inr ⟨w.heap.size, 0, 1, rfl, by simp, by simp, by simp, fun i hi => ?_⟩
  have : i = 0 := by simpa using hi
  subst this
  exact cell_alloc1 w _ t
theorem w64 {n : Int} (h : -9223372036854775808 ≤ n) (g : n ≤ 9223372036854775807) : IntKind.i64.wrap n = n := by rw [IntKind.wrap_i64]; omega
theorem tmod_in {x y : Int} (h : 0 ≤ x) : x.tmod y = x % y := Int.tmod_eq_emod_of_nonneg h
theorem tdiv_in {x y : Int} (h : 0 ≤ x) : x.tdiv y = x / y := Int.tdiv_eq_ediv_of_nonneg h
theorem Try.elInt : ElemI Try.prog 46 3 (.int .i64 0) 8 := ⟨Try.underlying46, by kernel_rfl, rfl⟩
theorem Try.elByte : ElemI Try.prog 24 5 (.int .u8 0) 1 := ⟨Try.underlying24, by kernel_rfl, rfl⟩
end Go.Proofs.Ytcieggaihelacaa
