/- General laws of the walk that the other texts of this claim use: an append onto a slice of the call's own, reads of a row of cells, what lies behind. No condition but those in the statements. -/
import Derived.Test.YtcieggaihelacaaProg
import Derived.WalkKit
import Derived.IntWalk
import Derived.Lib.Hide
import Derived.Maps.AppendAt
import Derived.Maps.OwnIn
import Derived.Deep.QuietTactic
import Derived.BigQuiet
import Derived.RangeFuncNested
import Derived.RangeFuncBound
import Derived.RangeFuncCalls
import Derived.RangeFuncLeaves
import Derived.Shelf.Abstract
import Derived.OwnWalkIn
import Derived.TacticsInMore
import Derived.LoopNIn
import Derived.LoopIn
import Derived.Lib.AppendZeros
import Derived.Laws.AppendOwnNone
import Derived.StillTailTactics
import Derived.OrdersIn
set_option linter.unusedSimpArgs false
set_option linter.unusedVariables false
namespace Go.Proofs.Ytcieggaihelacaa
open Go.RowKit
theorem ret_int {k : IntKind} {a b : Int} (h : a = b) : Ending.returned (.int k a) = .returned (.int k b) := by rw [h]

/-- One element type's row of the table, as the laws want it. -/
structure ElemI (P : Program) (t e : TypeId) (z : Value) (bytes : Nat) : Prop where
  under : P.underlying t = some (.slice e)
  info : (P.info? e).map (fun i => (i.zero, i.size, i.bytes)) = some (some z, 1, bytes)
  one : z.cells.size = 1

section
variable {P : Program} {ops : Array Oper} {rest : List Oper} {Q : Exit → Act → World → Prop} {a : Act} {w : World}

/-- append(s, u): s a slice of the call's own. -/
theorem wp_app1 {dst : Option Tmp} {ty t e : TypeId} {pos : String} {aft : Array Edge} {s x : Operand} {z : Value} {bytes base n g : Nat} {v u : Value} {xs : List Value}
    (E : ElemI P t e z bytes) (hs : a.eval s = v) (hx : a.eval x = .slice (some ⟨g, 0, none⟩) 1 1) (hown : w.ownsRow base e 1 v n xs) (hc : w.cell? ⟨g, 0, none⟩ = some u) (h1 : u.oneCell' = true)
    (hn : (n + 1) * (bytes + 1) ≤ 140737488355328) (hbase : base ≤ w.heap.size)
    (h : ∀ g' cap' w', w'.ownsRow base e 1 (.slice (some ⟨g', 0, none⟩) (n + 1) cap') (n + 1) (xs ++ [u]) → w.grownBy w' v.ownBlock → (v.ownBlock = some g' ∨ g' = w.heap.size) → wpList P ops Q rest (a.put dst (.slice (some ⟨g', 0, none⟩) (n + 1) cap')) w') :
    wpList P ops Q (⟨dst, .call { callee := .builtin .append, args := #[s, x], argTypes := #[t, t] }, ty, pos, aft, none⟩ :: rest) a w := by
  obtain ⟨i, hi, hz0, hz1, hz2⟩ := info_parts E.info
  have hn1 : n + 1 ≤ 140737488355328 := Nat.le_trans (Nat.le_mul_of_pos_right _ (by omega)) hn
  have hn2 : (n + 1) * bytes ≤ 140737488355328 := Nat.le_trans (Nat.mul_le_mul_left _ (by omega)) hn
  refine wpList_append_own_at w rfl s x t rfl base e i z 1 bytes E.under hi hz0 hz1 hz2 E.one (by decide) v n xs hs hown ⟨g, 0, none⟩ 1 1 [u] hx rfl ?_ ?_ (by simp [maxLen]; omega) hn2 hbase ?_
  · intro j y hj
    cases j with
    | zero => simp at hj; subst hj; simpa [Addr.add] using hc
    | succ j => simp at hj
  · intro y hy; simp at hy; subst hy; exact h1
  · intro v' w' hown' hgrow hnil hat
    obtain ⟨g', cap', rfl⟩ := ownsRow_succ hown'
    refine h g' cap' w' hown' hgrow ?_
    rcases hat with hat | hat
    · exact Or.inl hat.symm
    · exact Or.inr (by simpa [Value.ownBlock] using hat)
end

section
variable {F : Fence} {nF : Nat} {P : Program} {ops : Array Oper} {rest : List Oper} {Q : Exit → Act → World → Prop} {a : Act} {w : World}
/-- The same inside a fence. -/
theorem wpIn_app1 {dst : Option Tmp} {ty t e : TypeId} {pos : String} {aft : Array Edge} {s x : Operand} {z : Value} {bytes base n g : Nat} {v u : Value} {xs : List Value}
    (E : ElemI P t e z bytes) (hs : a.eval s = v) (hx : a.eval x = .slice (some ⟨g, 0, none⟩) 1 1) (hown : w.ownsRow base e 1 v n xs) (hc : w.cell? ⟨g, 0, none⟩ = some u) (h1 : u.oneCell' = true)
    (hn : (n + 1) * (bytes + 1) ≤ 140737488355328) (hbase : base ≤ w.heap.size)
    (h : ∀ g' cap' w', w'.ownsRow base e 1 (.slice (some ⟨g', 0, none⟩) (n + 1) cap') (n + 1) (xs ++ [u]) → w.grownBy w' v.ownBlock → (v.ownBlock = some g' ∨ g' = w.heap.size) → wpListIn F nF P ops Q rest (a.put dst (.slice (some ⟨g', 0, none⟩) (n + 1) cap')) w') :
    wpListIn F nF P ops Q (⟨dst, .call { callee := .builtin .append, args := #[s, x], argTypes := #[t, t] }, ty, pos, aft, none⟩ :: rest) a w := by
  obtain ⟨i, hi, hz0, hz1, hz2⟩ := info_parts E.info
  have hn1 : n + 1 ≤ 140737488355328 := Nat.le_trans (Nat.le_mul_of_pos_right _ (by omega)) hn
  have hn2 : (n + 1) * bytes ≤ 140737488355328 := Nat.le_trans (Nat.mul_le_mul_left _ (by omega)) hn
  refine wpListIn_append_own_at w rfl s x t rfl base e i z 1 bytes E.under hi hz0 hz1 hz2 E.one (by decide) v n xs hs hown ⟨g, 0, none⟩ 1 1 [u] hx rfl ?_ ?_ (by simp [maxLen]; omega) hn2 hbase ?_
  · intro j y hj
    cases j with
    | zero => simp at hj; subst hj; simpa [Addr.add] using hc
    | succ j => simp at hj
  · intro y hy; simp at hy; subst hy; exact h1
  · intro v' w' hown' hgrow hnil hat
    obtain ⟨g', cap', rfl⟩ := ownsRow_succ hown'
    refine h g' cap' w' hown' hgrow ?_
    rcases hat with hat | hat
    · exact Or.inl hat.symm
    · exact Or.inr (by simpa [Value.ownBlock] using hat)
end

theorem cell_alloc1 (w : World) (u : Value) (t : TypeId) : (w.alloc (.cells #[u] t)).cell? ⟨w.heap.size, 0, none⟩ = some u := by
  have h := World.alloc_heap_new w (.cells #[u] t)
  unfold World.cell?
  rw [h]
  rfl
/-- The slice v reads as the numbers xs (of kind k). -/
def Rd (k : IntKind) (w : World) (v : Value) (xs : List Int) : Prop :=
  (v = .slice none 0 0 ∧ xs = []) ∨ ∃ b off cap, v = .slice (some ⟨b, off, none⟩) xs.length cap ∧ b < w.heap.size ∧ xs.length ≤ cap ∧ xs.length ≤ 140737488351232 ∧ ∀ i : Nat, i < xs.length → w.cell? ⟨b, off + i, none⟩ = some (.int k (xs[i]?.getD 0))

theorem Rd.of_owns {k : IntKind} {w : World} {base : Nat} {e : TypeId} {v : Value} {xs : List Int} (h : w.ownsRow base e 1 v xs.length (xs.map (Value.int k))) (hl : xs.length ≤ 140737488351232) : Rd k w v xs := by
  rcases h.2 with ⟨rfl, h0⟩ | ⟨g, cap, cur, rfl, hb, hh, hnc, hcm, hs, ht⟩
  · exact Or.inl ⟨rfl, List.eq_nil_of_length_eq_zero h0⟩
  · refine Or.inr ⟨g, 0, cap, rfl, (Array.getElem?_eq_some_iff.1 hh).1, hnc, hl, fun i hi => ?_⟩
    have hc : cur[i]? = some (Value.int k (xs[i]?.getD 0)) := by
      have h1 : (cur.toList.take (xs.length * 1))[i]? = (xs.map (Value.int k))[i]? := by rw [ht]
      rw [List.getElem?_take_of_lt (by omega), Array.getElem?_toList] at h1
      rw [h1, List.getElem?_map]
      simp [hi]
    unfold World.cell?
    rw [hh]
    simpa using hc

theorem Rd.kept {k : IntKind} {w w' : World} {v : Value} {xs : List Int} (h : Rd k w v xs) (hs : w.heap.size ≤ w'.heap.size) (hb : ∀ b, v.ownBlock = some b → w'.heap[b]? = w.heap[b]?) : Rd k w' v xs := by
  rcases h with h | ⟨b, off, cap, rfl, hlt, hc, hl, hh⟩
  · exact Or.inl h
  · refine Or.inr ⟨b, off, cap, rfl, by omega, hc, hl, fun i hi => ?_⟩
    exact (World.cell?_of_block (w := w) (a := ⟨b, off + i, none⟩) (hb b rfl)).trans (hh i hi)
theorem Rd.block {k : IntKind} {w : World} {v : Value} {xs : List Int} (h : Rd k w v xs) : ∀ b, v.ownBlock = some b → b < w.heap.size := by
  intro b hb
  rcases h with ⟨rfl, _⟩ | ⟨b', off, cap, rfl, hlt, _⟩
  · simp [Value.ownBlock] at hb
  · simp [Value.ownBlock] at hb; omega
theorem Rd.below {k : IntKind} {w w' : World} {v : Value} {xs : List Int} (h : Rd k w v xs) (hb : Below w.heap.size w w') : Rd k w' v xs :=
  h.kept hb.size (fun b e => hb.block b (h.block b e))
theorem Rd.len {k : IntKind} {w : World} {v : Value} {xs : List Int} (h : Rd k w v xs) : xs.length ≤ 140737488351232 := by
  rcases h with ⟨rfl, rfl⟩ | ⟨b', off, cap, rfl, _, _, hl, _⟩
  · simp
  · exact hl
theorem Rd.form {k : IntKind} {w : World} {v : Value} {xs : List Int} (h : Rd k w v xs) : ∃ a cap, v = .slice a xs.length cap := by
  rcases h with ⟨rfl, rfl⟩ | ⟨b', off, cap, rfl, _⟩
  · exact ⟨none, 0, rfl⟩
  · exact ⟨_, _, rfl⟩
/-- The place of the first x; -1: it is not there. -/
def idxI (x : Int) (xs : List Int) : Int := if x ∈ xs then (xs.idxOf x : Int) else -1
theorem idxI_found {x : Int} {xs : List Int} {k : Nat} (hk : k < xs.length) (hn : ∀ j, j < k → xs[j]?.getD 0 ≠ x) (hx : xs[k]?.getD 0 = x) : idxI x xs = k := by
  have hx' : xs[k] = x := by simpa [hk] using hx
  have hm : x ∈ xs := by rw [← hx']; exact List.getElem_mem hk
  unfold idxI
  rw [if_pos hm]
  have h1 := List.idxOf_lt_length_of_mem hm
  have h2 : xs[xs.idxOf x] = x := List.getElem_idxOf h1
  rcases Nat.lt_trichotomy (xs.idxOf x) k with h | h | h
  · exact absurd (by simp [h1, h2]) (hn _ h)
  · rw [h]
  · exfalso
    have := List.not_of_lt_findIdx (p := (· == x)) (xs := xs) (i := k) (by simpa [List.idxOf] using h)
    simp [hx'] at this
theorem idxI_none {x : Int} {xs : List Int} (hn : ∀ j, j < xs.length → xs[j]?.getD 0 ≠ x) : idxI x xs = -1 := by
  unfold idxI
  rw [if_neg]
  intro hm
  obtain ⟨j, hj, he⟩ := List.getElem_of_mem hm
  exact hn j hj (by simp [hj, he])
/-! ### A block that holds a row of cells, wholly known to lie there -/
theorem blk_cell {w : World} {g : Nat} {cur : Array Value} {e : TypeId} {fz : Nat × Nat} (h : w.heap[g]? = some (.cells cur e fz)) (i : Nat) : w.cell? ⟨g, i, none⟩ = cur[i]? := by
  unfold World.cell?
  rw [h]
  rfl
theorem blk_free {w : World} {g : Nat} {cur : Array Value} {e : TypeId} (h : w.heap[g]? = some (.cells cur e (0, 0))) (i : Nat) : w.frozen? ⟨g, i, none⟩ = false := by
  unfold World.frozen?
  rw [h]
  simp
theorem blk_lt {w : World} {g : Nat} {o : Obj} (h : w.heap[g]? = some o) : g < w.heap.size := (Array.getElem?_eq_some_iff.1 h).1
theorem blk_set {w : World} {g : Nat} {cur : Array Value} {e : TypeId} {fz : Nat × Nat} (h : w.heap[g]? = some (.cells cur e fz)) (i : Nat) (u : Value) :
    (w.setCell ⟨g, i, none⟩ u).heap[g]? = some (.cells (cur.setIfInBounds i u) e fz) := by
  obtain ⟨hlt, hk⟩ := Array.getElem?_eq_some_iff.1 h
  show (w.heap.modify g _)[g]? = _
  rw [Array.getElem?_eq_getElem (by rw [Array.size_modify]; exact hlt), Array.getElem_modify_self, hk]
  rfl
theorem grown_set (w : World) (a : Addr) (u : Value) : w.grownBy (w.setCell a u) (some a.block) :=
  ⟨rfl, rfl, rfl, (KeepsWalks.setCell w _ u).size, fun k _ hk => Below.heap_setCell _ _ _ k (fun e => hk (by rw [e]))⟩
theorem blk_kept {w w' : World} {g : Nat} {o : Obj} {row : Option Nat} (h : w.heap[g]? = some o) (hg : w.grownBy w' row) (hne : some g ≠ row) : w'.heap[g]? = some o := (hg.block g (blk_lt h) hne).trans h
theorem below_grown {w w' : World} (h : Below w.heap.size w w') (row : Option Nat) : w.grownBy w' row := ⟨h.os, h.tape, h.output, h.size, fun k hk _ => h.block k hk⟩
theorem grown_below {w w' : World} (h : w.grownBy w' none) : Below w.heap.size w w' := ⟨h.os, h.tape, h.output, h.size, fun k hk => h.block k hk (by simp)⟩
theorem owns_blk {w : World} {base : Nat} {e : TypeId} {v : Value} {n : Nat} {xs : List Value} (h : w.ownsRow base e 1 v n xs) :
    (v = .slice none 0 0 ∧ n = 0 ∧ xs = []) ∨ ∃ g cap cur, v = .slice (some ⟨g, 0, none⟩) n cap ∧ base ≤ g ∧ w.heap[g]? = some (.cells cur e (0, 0)) ∧ n ≤ cap ∧ cap ≤ maxLen ∧ cur.size = cap ∧ cur.toList.take n = xs := by
  rcases h.2 with ⟨rfl, h0⟩ | ⟨g, cap, cur, rfl, hb, hh, hnc, hcm, hs, ht⟩
  · exact Or.inl ⟨rfl, h0, List.eq_nil_of_length_eq_zero (by rw [h.1, h0])⟩
  · exact Or.inr ⟨g, cap, cur, rfl, hb, hh, hnc, hcm, by simpa using hs, by simpa using ht⟩
/-- append(s, ys...): s a slice of the call's own, ys read as numbers. -/
theorem wp_appN {P : Program} {ops : Array Oper} {rest : List Oper} {Q : Exit → Act → World → Prop} {a : Act} {w : World} {dst : Option Tmp} {ty t e : TypeId} {pos : String} {aft : Array Edge} {s x : Operand} {z : Value} {bytes base n : Nat} {v u : Value} {xs : List Value} {kd : IntKind} {ys : List Int}
    (E : ElemI P t e z bytes) (hs : a.eval s = v) (hx : a.eval x = u) (hown : w.ownsRow base e 1 v n xs) (hu : Rd kd w u ys)
    (hn : (n + ys.length) * (bytes + 1) ≤ 140737488355328) (hbase : base ≤ w.heap.size)
    (h : ∀ a' cap' w', w'.ownsRow base e 1 (.slice a' (n + ys.length) cap') (n + ys.length) (xs ++ ys.map (Value.int kd)) → w.grownBy w' v.ownBlock → (v.ownBlock = (Value.slice a' (n + ys.length) cap').ownBlock ∨ (Value.slice a' (n + ys.length) cap').ownBlock = some w.heap.size) → wpList P ops Q rest (a.put dst (.slice a' (n + ys.length) cap')) w') :
    wpList P ops Q (⟨dst, .call { callee := .builtin .append, args := #[s, x], argTypes := #[t, t] }, ty, pos, aft, none⟩ :: rest) a w := by
  obtain ⟨i, hi, hz0, hz1, hz2⟩ := info_parts E.info
  have hn1 : n + ys.length ≤ 140737488355328 := Nat.le_trans (Nat.le_mul_of_pos_right _ (by omega)) hn
  have hn2 : (n + ys.length) * bytes ≤ 140737488355328 := Nat.le_trans (Nat.mul_le_mul_left _ (by omega)) hn
  rcases hu with ⟨rfl, rfl⟩ | ⟨b, off, cap, rfl, hlt, hcap, hlen, hc⟩
  · refine wpList_append_own_none rfl s x t rfl base e i 1 E.under hi v n xs hs hown hx ?_
    rcases owns_blk hown with ⟨rfl, rfl, rfl⟩ | ⟨g, cap, cur, rfl, _⟩
    · exact h none 0 w (by simpa using hown) (World.grownBy.refl _ _) (Or.inl rfl)
    · exact h (some ⟨g, 0, none⟩) cap w (by simpa using hown) (World.grownBy.refl _ _) (Or.inl rfl)
  · refine wpList_append_own_at w rfl s x t rfl base e i z 1 bytes E.under hi hz0 hz1 hz2 E.one (by decide) v n xs hs hown ⟨b, off, none⟩ ys.length cap (ys.map (Value.int kd)) hx (by simp) ?_ ?_ (by simp [maxLen]; omega) hn2 hbase ?_
    · intro j y hj
      have hjl : j < ys.length := by
        have := (List.getElem?_eq_some_iff.1 hj).1
        simpa using this
      have h1 := hc j hjl
      rw [List.getElem?_map] at hj
      simp [hjl] at hj h1
      subst hj
      unfold Addr.add
      split
      · rename_i e0; subst e0; exact h1
      · exact h1
    · intro y hy
      obtain ⟨q, _, rfl⟩ := List.mem_map.1 hy
      rfl
    · intro v' w' hown' hgrow hnil hat
      rcases owns_blk hown' with ⟨rfl, e0, _⟩ | ⟨g, cap', cur, rfl, _⟩
      · have e1 : n = 0 := by omega
        have e2 : ys.length = 0 := by omega
        have := h none 0 w' (by rw [e1, e2] at hown' ⊢; exact hown') hgrow (by rw [e1, e2]; exact hat.imp Eq.symm id)
        rw [e1, e2] at this; exact this
      · exact h _ _ w' hown' hgrow (hat.imp Eq.symm id)
theorem Rd.solid {k : IntKind} {w : World} {v : Value} {xs : List Int} (h : Rd k w v xs) (hp : 0 < xs.length) :
    ∃ b off cap, v = .slice (some ⟨b, off, none⟩) xs.length cap ∧ b < w.heap.size ∧ xs.length ≤ cap ∧ ∀ i : Nat, i < xs.length → w.cell? ⟨b, off + i, none⟩ = some (.int k (xs[i]?.getD 0)) := by
  rcases h with ⟨_, rfl⟩ | ⟨b, off, cap, rfl, h1, h2, _, h3⟩
  · simp at hp
  · exact ⟨b, off, cap, rfl, h1, h2, h3⟩
theorem Rd.alloc {k : IntKind} {w : World} {v : Value} {xs : List Int} (h : Rd k w v xs) (o : Obj) : Rd k (w.alloc o) v xs := h.below ((Below.refl _ w).alloc (Nat.le_refl _) o)
theorem Rd.new1 (k : IntKind) (w : World) (x : Int) (t : TypeId) : Rd k (w.alloc (.cells #[.int k x] t)) (.slice (some ⟨w.heap.size, 0, none⟩) 1 1) [x] := by
  refine Or.inr ⟨w.heap.size, 0, 1, rfl, by simp, by simp, by simp, fun i hi => ?_⟩
  have : i = 0 := by simpa using hi
  subst this
  exact cell_alloc1 w _ t
theorem w64 {n : Int} (h : -9223372036854775808 ≤ n) (g : n ≤ 9223372036854775807) : IntKind.i64.wrap n = n := by rw [IntKind.wrap_i64]; omega
theorem tmod_in {x y : Int} (h : 0 ≤ x) : x.tmod y = x % y := Int.tmod_eq_emod_of_nonneg h
theorem tdiv_in {x y : Int} (h : 0 ≤ x) : x.tdiv y = x / y := Int.tdiv_eq_ediv_of_nonneg h
theorem Try.elInt : ElemI Try.prog 46 3 (.int .i64 0) 8 := ⟨Try.underlying46, by kernel_rfl, rfl⟩
theorem Try.elByte : ElemI Try.prog 24 5 (.int .u8 0) 1 := ⟨Try.underlying24, by kernel_rfl, rfl⟩
end Go.Proofs.Ytcieggaihelacaa
/- The contracts of the frame layer's plain functions: each call returns what the plain Lean function beside it says. No condition but those that stand in the statements. -/
set_option linter.unusedSimpArgs false
set_option linter.unusedVariables false
namespace Go.Proofs.Ytcieggaihelacaa
open Go.RowKit
def wideS (f : Int) : Int := if f = 1 then 352 else if f = 0 then 176 else 0
theorem wideS_cases (f : Int) : (f = 1 ∧ wideS f = 352) ∨ (f = 0 ∧ wideS f = 176) ∨ (f ≠ 0 ∧ f ≠ 1 ∧ wideS f = 0) := by
  unfold wideS; split
  · omega
  · split <;> omega
theorem wideS_bd (f : Int) : 0 ≤ wideS f ∧ wideS f ≤ 352 := by have := wideS_cases f; omega
theorem wide_any (f : Int) (w : World) :
    Calls Try.prog 80 #[.int .i64 f] w fun e w' => e = .returned (.int .i64 (wideS f)) ∧ w = w' := by
  go_enter Try.func80, Try.ntmps80
  go_wp2
  all_goals (go_ret; refine ⟨ret_int ?_, rfl⟩; simp_all [wideS])
theorem high_any (f : Int) (w : World) :
    Calls Try.prog 81 #[.int .i64 f] w fun e w' => e = .returned (.int .i64 (wideS f * 9 / 11)) ∧ w = w' := by
  obtain ⟨hb1, hb2⟩ := wideS_bd f
  go_enter Try.func81, Try.ntmps81
  go_wp2_with (go_at_call 80; refine (wide_any _ _).mono ?_; rintro e w' ⟨rfl, rfl⟩)
  go_ret
  exact ⟨rfl, rfl⟩
theorem there_any (f : Int) (w : World) :
    Calls Try.prog 79 #[.int .i64 f] w fun e w' => e = .returned (.bool (decide (0 < wideS f))) ∧ w = w' := by
  go_enter Try.func79, Try.ntmps79
  go_wp2_with (go_at_call 80; refine (wide_any _ _).mono ?_; rintro e w' ⟨rfl, rfl⟩)
  go_ret
  exact ⟨rfl, rfl⟩
theorem step_any (f : Int) (w : World) (h0 : 0 ≤ f) (h1 : f ≤ 1) :
    Calls Try.prog 96 #[.int .i64 f] w fun e w' => e = .returned (.int .i64 (2 - f)) ∧ w = w' := by
  go_enter Try.func96, Try.ntmps96
  go_wp2
  go_ret
  exact ⟨rfl, rfl⟩
theorem planeAt_any (p s x y : Int) (w : World) (h0 : 0 ≤ p) (h1 : p ≤ 1000000) (h2 : 0 ≤ s) (h3 : s ≤ 1000) (h4 : 0 ≤ x) (h5 : x ≤ 1000) (h6 : 0 ≤ y) (h7 : y ≤ 1000) :
    Calls Try.prog 100 #[.agg #[.int .i64 p, .int .i64 s], .int .i64 x, .int .i64 y] w fun e w' => e = .returned (.int .i64 (p + y * s + x)) ∧ Below w.heap.size w w' := by
  have hm : 0 ≤ y * s := Int.mul_nonneg h6 h2
  have hm2 : y * s ≤ 1000 * 1000 := Int.mul_le_mul h7 h3 h2 (by omega)
  go_enter Try.func100, Try.ntmps100
  go_wp2
  go_ret
  exact ⟨rfl, (Below.refl _ _).alloc (Nat.le_refl _) _⟩
def cornerX (f g a : Int) : Int := (a-1)%11*16 + f * ((g-1)%2*176)
def cornerY (g a : Int) : Int := (a-1)/11*16 + (g-1)/2*48
theorem fcorner_any (f g a : Int) (w : World) (h0 : f = 0 ∨ f = 1) (h1 : 1 ≤ g) (h2 : g ≤ 12) (h3 : 1 ≤ a) (h4 : a ≤ 33) :
    Calls Try.prog 86 #[.int .i64 f, .int .i64 g, .int .i64 a] w fun e w' => e = .returned (.tuple #[.int .i64 (cornerX f g a), .int .i64 (cornerY g a)]) ∧ w = w' := by
  unfold cornerX cornerY
  rcases h0 with rfl | rfl
  · go_enter Try.func86, Try.ntmps86
    go_wp2
    go_ret2
    refine ⟨?_, rfl⟩
    simp
  · go_enter Try.func86, Try.ntmps86
    go_wp2
    go_ret2
    refine ⟨?_, rfl⟩
    simp
def highS (f : Int) : Int := if f = 1 then 288 else if f = 0 then 144 else 0
def bytesS (f : Int) : Int := if f = 1 then 152064 else if f = 0 then 38016 else 0
def fmtE (f : Int) : Int := if f = 1 then 0 else if f = 0 then 0 else 3
theorem fmt_cases (f : Int) : (f = 1 ∧ wideS f = 352 ∧ highS f = 288 ∧ bytesS f = 152064 ∧ fmtE f = 0) ∨ (f = 0 ∧ wideS f = 176 ∧ highS f = 144 ∧ bytesS f = 38016 ∧ fmtE f = 0) ∨ (f ≠ 0 ∧ f ≠ 1 ∧ wideS f = 0 ∧ highS f = 0 ∧ bytesS f = 0 ∧ fmtE f = 3) := by
  unfold wideS highS bytesS fmtE; split
  · exact Or.inl (by simp [*])
  · split
    · exact Or.inr (Or.inl (by simp [*]))
    · exact Or.inr (Or.inr (by simp [*]))
/-- Size: width, height, bytes, error. -/
theorem size_any (f : Int) (w : World) :
    Calls Try.prog 37 #[.int .i64 f] w fun e w' => e = .returned (.tuple #[.int .i64 (wideS f), .int .i64 (highS f), .int .i64 (bytesS f), .int .i64 (fmtE f)]) ∧ w = w' := by
  rcases fmt_cases f with ⟨hf, h1, h2, h3, h4⟩ | ⟨hf, h1, h2, h3, h4⟩ | ⟨hf, hf', h1, h2, h3, h4⟩
  all_goals
    rw [h1, h2, h3, h4]
    clear h2 h3 h4
    try subst hf
    go_enter Try.func37, Try.ntmps37
    go_wp2_with (first
      | (go_at_call 79; refine (there_any _ _).mono ?_; rintro e w' ⟨rfl, rfl⟩)
      | (go_at_call 80; refine (wide_any _ _).mono ?_; rintro e w' ⟨rfl, rfl⟩)
      | (go_at_call 81; refine (high_any _ _).mono ?_; rintro e w' ⟨rfl, rfl⟩))
    exact bodyPost_ret (by simp [results, Try.results37, go_sem]) rfl ⟨rfl, rfl⟩
theorem rsize_any (f : Int) (w : World) :
    Calls Try.prog 38 #[.int .i64 f] w fun e w' => e = .returned (.tuple #[.int .i64 (wideS f), .int .i64 (highS f), .int .i64 (bytesS f), .int .i64 (fmtE f)]) ∧ w = w' := by
  rcases fmt_cases f with ⟨hf, h1, h2, h3, h4⟩ | ⟨hf, h1, h2, h3, h4⟩ | ⟨hf, hf', h1, h2, h3, h4⟩
  all_goals
    rw [h1, h2, h3, h4]
    clear h1 h2 h3 h4
    try subst hf
    go_enter Try.func38, Try.ntmps38
    go_wp2
    exact bodyPost_ret (by simp [results, Try.results38, go_sem]) rfl ⟨rfl, rfl⟩
def groupsS (f : Int) : List Int := if f = 1 then [1, 2, 3, 4, 5, 6, 7, 8, 9, 10, 11, 12] else if f = 0 then [1, 3, 5] else []
theorem groups_any (f : Int) (w : World) (h : f = 0 ∨ f = 1) :
    Calls Try.prog 82 #[.int .i64 f] w fun e w' => (∃ v, e = .returned v ∧ w'.ownsRow w.heap.size 3 1 v (groupsS f).length ((groupsS f).map (Value.int .i64))) ∧ Below w.heap.size w w' := by
  have key : ∀ (f last st : Int) (xs : List Int) (j : Nat), f = 0 ∧ last = 5 ∧ st = 2 ∧ xs = [1, 3, 5] ∨ f = 1 ∧ last = 12 ∧ st = 1 ∧ xs = [1, 2, 3, 4, 5, 6, 7, 8, 9, 10, 11, 12] → j < xs.length →
      (1 + (j : Int) * st ≤ last ∧ xs.take (j + 1) = xs.take j ++ [1 + (j : Int) * st]) := by
    rintro f last st xs j (⟨rfl, rfl, rfl, rfl⟩ | ⟨rfl, rfl, rfl, rfl⟩) hj
    · match j, hj with
      | 0, _ => decide
      | 1, _ => decide
      | 2, _ => decide
    · match j, hj with
      | 0, _ => decide
      | 1, _ => decide
      | 2, _ => decide
      | 3, _ => decide
      | 4, _ => decide
      | 5, _ => decide
      | 6, _ => decide
      | 7, _ => decide
      | 8, _ => decide
      | 9, _ => decide
      | 10, _ => decide
      | 11, _ => decide
  rcases h with rfl | rfl
  · have hg : groupsS 0 = [1, 3, 5] := rfl
    rw [hg]; clear hg
    go_enter Try.func82, Try.ntmps82
    go_wp2
    go_loopw [2, 4] (fun v i wr => ∃ k : Nat, k ≤ 3 ∧ i = .int .i64 (1 + (k : Int) * 2) ∧ wr.ownsRow w.heap.size 3 1 v k ((([1, 3, 5] : List Int).take k).map (Value.int .i64)) ∧ Below w.heap.size w wr) (fun _ i _ => 100 - (intOf i).toNat)
    case atStart => exact ⟨0, by omega, rfl, World.ownsRow_nil _ _ _ _, Below.refl _ _⟩
    case round =>
      obtain ⟨k, hk, rfl, hown, hb⟩ := hrel
      by_cases hlt : k < 3
      · obtain ⟨h5, htk⟩ := key 0 5 2 [1, 3, 5] k (by simp) hlt
        have HT := Lib.hid htk
        clear htk
        go_wp2_with (first
          | (go_at_call 96; refine (step_any _ _ (by omega) (by omega)).mono ?_; rintro e w' ⟨rfl, rfl⟩)
          | (at_builtin; refine wp_app1 Try.elInt rfl rfl (hown.alloc _) (cell_alloc1 _ _ _) rfl (by omega) (by have := hb.size; simp; omega) ?_; intro g1 c1 w1 hown1 hgrow1 _))
        go_roundw
        case rel =>
          refine ⟨k + 1, by omega, by go_num, ?_, ?_⟩
          · rw [HT.out, List.map_append]; exact hown1
          · exact (hb.alloc hb.size _).grown hgrow1 (by have := hb.size; simp; omega) (fun j e => (hown.lt j e).1)
        case measure => simp [intOf]; omega
      · have h3 : k = 3 := by omega
        subst h3
        go_wp2
        go_ret
        exact ⟨⟨_, rfl, hown⟩, hb⟩
  · have hg : groupsS 1 = [1, 2, 3, 4, 5, 6, 7, 8, 9, 10, 11, 12] := rfl
    rw [hg]; clear hg
    go_enter Try.func82, Try.ntmps82
    go_wp2
    go_loopw [2, 4] (fun v i wr => ∃ k : Nat, k ≤ 12 ∧ i = .int .i64 (1 + (k : Int)) ∧ wr.ownsRow w.heap.size 3 1 v k ((([1, 2, 3, 4, 5, 6, 7, 8, 9, 10, 11, 12] : List Int).take k).map (Value.int .i64)) ∧ Below w.heap.size w wr) (fun _ i _ => 100 - (intOf i).toNat)
    case atStart => exact ⟨0, by omega, rfl, World.ownsRow_nil _ _ _ _, Below.refl _ _⟩
    case round =>
      obtain ⟨k, hk, rfl, hown, hb⟩ := hrel
      by_cases hlt : k < 12
      · obtain ⟨h5, htk⟩ := key 1 12 1 [1, 2, 3, 4, 5, 6, 7, 8, 9, 10, 11, 12] k (by simp) hlt
        simp only [Int.mul_one] at h5 htk
        have HT := Lib.hid htk
        clear htk
        go_wp2_with (first
          | (go_at_call 96; refine (step_any _ _ (by omega) (by omega)).mono ?_; rintro e w' ⟨rfl, rfl⟩)
          | (at_builtin; refine wp_app1 Try.elInt rfl rfl (hown.alloc _) (cell_alloc1 _ _ _) rfl (by omega) (by have := hb.size; simp; omega) ?_; intro g1 c1 w1 hown1 hgrow1 _))
        go_roundw
        case rel =>
          refine ⟨k + 1, by omega, by go_num, ?_, ?_⟩
          · rw [HT.out, List.map_append]; exact hown1
          · exact (hb.alloc hb.size _).grown hgrow1 (by have := hb.size; simp; omega) (fun j e => (hown.lt j e).1)
        case measure => simp [intOf]; omega
      · have h3 : k = 12 := by omega
        subst h3
        go_wp2
        go_ret
        exact ⟨⟨_, rfl, hown⟩, hb⟩
end Go.Proofs.Ytcieggaihelacaa
/- The contracts of slices.Index, slices.Contains at []int, SameInts, OverInts, Pick. -/
set_option linter.unusedSimpArgs false
set_option linter.unusedVariables false
namespace Go.Proofs.Ytcieggaihelacaa
open Go.RowKit
theorem index_any (v : Value) (x : Int) (xs : List Int) (w : World) (h : Rd .i64 w v xs) :
    Calls Try.prog 84 #[v, .int .i64 x] w fun e w' => e = .returned (.int .i64 (idxI x xs)) ∧ w = w' := by
  rcases h with ⟨rfl, rfl⟩ | ⟨b, off, cap, rfl, _, hcap, hlen, hc⟩
  · have hI : idxI x [] = -1 := rfl
    rw [hI]; clear hI
    go_enter Try.func84, Try.ntmps84
    go_wp2
    go_loop [8] (fun i => i = .int .i64 0) (fun _ => 0)
    case atStart => rfl
    case round =>
      subst hrel
      go_wp2
      go_ret
      exact ⟨rfl, rfl⟩
  · go_enter Try.func84, Try.ntmps84
    go_wp2
    go_loop [5, 8] (fun _ i => ∃ k : Nat, k ≤ xs.length ∧ i = .int .i64 k ∧ ∀ j, j < k → xs[j]?.getD 0 ≠ x) (fun _ i => xs.length - (intOf i).toNat)
    case atStart => exact ⟨0, Nat.zero_le _, rfl, fun j hj => by omega⟩
    case round =>
      obtain ⟨k, hk, rfl, hn⟩ := hrel
      have HN := Lib.hid hn
      clear hn
      by_cases hlt : k < xs.length
      · have hck := hc k hlt
        clear hc
        generalize hy : xs[k]?.getD 0 = y at hck
        have HY := Lib.hid hy
        clear hy
        by_cases hx : x = y
        · have HI := Lib.hid (idxI_found hlt HN.out (HY.out.trans hx.symm))
          subst hx
          go_wp2
          go_ret
          exact ⟨ret_int HI.out.symm, rfl⟩
        · have hx' : (x == y) = false := by simpa using hx
          have HX := Lib.hid hx
          clear hx
          go_wp2
          go_round
          case rel =>
            refine ⟨k + 1, by omega, by go_num, fun j hj => ?_⟩
            by_cases e : j = k
            · subst e; rw [HY.out]; exact fun e => HX.out e.symm
            · exact HN.out j (by omega)
          case measure => simp [intOf]; omega
      · have e : k = xs.length := by omega
        subst e
        go_wp2
        go_ret
        exact ⟨ret_int (idxI_none HN.out).symm, rfl⟩
theorem contains_any (v : Value) (x : Int) (xs : List Int) (w : World) (h : Rd .i64 w v xs) :
    Calls Try.prog 85 #[v, .int .i64 x] w fun e w' => e = .returned (.bool (decide (0 ≤ idxI x xs))) ∧ w = w' := by
  go_enter Try.func85, Try.ntmps85
  go_wp2_with (go_at_call 84; refine (index_any _ _ _ _ h).mono ?_; rintro e w' ⟨rfl, rfl⟩)
  go_ret
  exact ⟨rfl, rfl⟩
/-- Two lists of numbers, compared. -/
theorem sameInts_any (v u : Value) (xs ys : List Int) (w : World) (h : Rd .i64 w v xs) (g : Rd .i64 w u ys) :
    Calls Try.prog 43 #[v, u] w fun e w' => e = .returned (.bool (decide (xs = ys))) ∧ ∃ n, w' = w.drewN n := by
  have hl := h.len
  have gl := g.len
  by_cases hlen : xs.length = ys.length
  · rcases h with ⟨rfl, rfl⟩ | ⟨b, off, cap, rfl, _, hcap, hlen1, hc⟩
    · obtain rfl : ys = [] := List.eq_nil_of_length_eq_zero hlen.symm
      obtain ⟨a, c, rfl⟩ := g.form
      go_enter Try.func43, Try.ntmps43
      go_wp2
      go_loop [5] (fun i => i = .int .i64 0) (fun _ => 0)
      case atStart => rfl
      case round =>
        subst hrel
        go_wp2
        go_ret
        exact ⟨rfl, 0, rfl⟩
    · rcases g with ⟨rfl, rfl⟩ | ⟨b2, off2, cap2, rfl, _, hcap2, hlen2, hc2⟩
      · obtain rfl : xs = [] := List.eq_nil_of_length_eq_zero hlen
        go_enter Try.func43, Try.ntmps43
        go_wp2
        go_loop [5] (fun i => i = .int .i64 0) (fun _ => 0)
        case atStart => rfl
        case round =>
          subst hrel
          go_wp2
          go_ret
          exact ⟨rfl, 0, rfl⟩
      · have ht : ((xs.length : Int) != (ys.length : Int)) = false := by simp [hlen]
        have HL := Lib.hid hlen
        clear hlen
        go_enter Try.func43, Try.ntmps43
        go_wp2
        go_loopw [5] (fun i wr => ∃ k : Nat, k ≤ xs.length ∧ i = .int .i64 k ∧ (∀ j, j < k → xs[j]?.getD 0 = ys[j]?.getD 0) ∧ ∃ n, wr = w.drewN n) (fun i _ => xs.length - (intOf i).toNat)
        case atStart => exact ⟨0, Nat.zero_le _, rfl, fun j hj => by omega, 0, rfl⟩
        case round =>
          obtain ⟨k, hk, rfl, hn, n0, rfl⟩ := hrel
          have HN := Lib.hid hn
          clear hn
          by_cases hlt : k < xs.length
          · have hlt2 : k < ys.length := by rw [← HL.out]; exact hlt
            have hck := hc k hlt
            have hck2 := hc2 k hlt2
            clear hc hc2
            have t1 : (k : Int) < (xs.length : Int) := by omega
            have t2 : (k : Int) < (ys.length : Int) := by omega
            generalize hy : xs[k]?.getD 0 = y at hck
            generalize hz : ys[k]?.getD 0 = z at hck2
            have HY := Lib.hid hy
            have HZ := Lib.hid hz
            clear hy hz
            by_cases hx : y = z
            · subst hx
              go_wp2
              go_quiet (fail)
              go_wp2
              go_roundw
              case rel =>
                refine ⟨k + 1, by omega, by go_num, fun j hj => ?_, _, rfl⟩
                by_cases e : j = k
                · subst e; rw [HY.out, HZ.out]
                · exact HN.out j (by omega)
              case measure => simp [intOf]; omega
            · have hx' : (y != z) = true := by simpa using hx
              have HX := Lib.hid hx
              clear hx
              go_wp2
              go_quiet (fail)
              go_wp2
              go_ret
              have he : ¬ xs = ys := fun e => HX.out (by rw [← HY.out, ← HZ.out, e])
              refine ⟨?_, _, World.drewN_drewN _ _ _⟩
              rw [decide_eq_false he]
              rfl
          · have e : k = xs.length := by omega
            subst e
            clear hc hc2
            go_wp2
            go_ret
            have he : xs = ys := by
              refine List.ext_getElem HL.out (fun j h1 h2 => ?_)
              have := HN.out j h1
              simpa [h1, h2] using this
            refine ⟨?_, _, rfl⟩
            rw [decide_eq_true he]
            rfl
  · obtain ⟨a, c, rfl⟩ := h.form
    obtain ⟨a2, c2, rfl⟩ := g.form
    have ht : ((xs.length : Int) != (ys.length : Int)) = true := by simp; omega
    have hd : decide (xs = ys) = false := by rw [decide_eq_false]; intro e; exact hlen (by rw [e])
    rw [hd]; clear hd hlen h g
    go_enter Try.func43, Try.ntmps43
    go_wp2
    go_ret
    exact ⟨rfl, 0, rfl⟩
theorem pick_any (x n : Int) (w : World) (h1 : -9223372036854775808 ≤ x) (h2 : x ≤ 9223372036854775807) (hn : 0 < n) (hn2 : n ≤ 1000000) :
    Calls Try.prog 21 #[.int .i64 x, .int .i64 n] w fun e w' => e = .returned (.int .i64 (x % n)) ∧ w = w' := by
  have hm : x.tmod n = if x % n = 0 ∨ 0 ≤ x then x % n else x % n - n := by
    rw [Int.tmod_eq_emod]
    split <;> split <;> rename_i a b <;> simp_all <;> omega
  have hb1 := Int.emod_nonneg x (show n ≠ 0 by omega)
  have hb2 := Int.emod_lt_of_pos x hn
  by_cases hx : x % n = 0 ∨ 0 ≤ x
  · rw [if_pos hx] at hm
    have HM := Lib.hid hm
    have t1 : decide (x.tmod n < 0) = false := by rw [hm]; simp; omega
    clear hm hx
    go_enter Try.func21, Try.ntmps21
    go_wp2
    all_goals go_ret
    all_goals exact ⟨ret_int HM.out, rfl⟩
  · rw [if_neg hx] at hm
    have HM := Lib.hid hm
    have t1 : decide (x.tmod n < 0) = true := by rw [hm]; simp; omega
    clear hm hx
    go_enter Try.func21, Try.ntmps21
    go_wp2
    all_goals go_ret
    all_goals (refine ⟨ret_int ?_, rfl⟩; rw [HM.out]; simp [wrap64]; omega)
end Go.Proofs.Ytcieggaihelacaa
/- The contracts of OverInts, Groups, Concat of three lists, Next, Corner and of the document's answers beside them. -/
namespace Go.Proofs.Ytcieggaihelacaa
open Go.RowKit
theorem overInts_any (v : Value) (n base : Nat) (xs : List Value) (w : World) (h : w.ownsRow base 3 1 v n xs) (hn : n ≤ 140737488351232) :
    Calls Try.prog 44 #[v] w fun e w' => (∃ r, e = .returned r) ∧ w.grownBy w' v.ownBlock := by
  rcases owns_blk h with ⟨rfl, rfl, rfl⟩ | ⟨g, cap, cur, rfl, hb, hh, hnc, hcm, hs, ht⟩
  · go_enter Try.func44, Try.ntmps44
    go_wp2
    go_loop [2] (fun i => i = .int .i64 0) (fun _ => 0)
    case atStart => rfl
    case round =>
      subst hrel
      go_wp2
      go_end0
      exact ⟨⟨_, rfl⟩, World.grownBy.refl _ _⟩
  · clear h ht
    have HS := Lib.hid hs
    clear hs
    go_enter Try.func44, Try.ntmps44
    go_wp2
    go_loopw [2] (fun i wr => ∃ k : Nat, k ≤ n ∧ i = .int .i64 k ∧ w.grownBy wr (some g) ∧ ∃ cur', wr.heap[g]? = some (.cells cur' 3 (0, 0)) ∧ cur'.size = cap) (fun i _ => n - (intOf i).toNat)
    case atStart => exact ⟨0, Nat.zero_le _, rfl, World.grownBy.refl _ _, cur, hh, HS.out⟩
    case round =>
      obtain ⟨k, hk, rfl, hg, cur', hh', hs'⟩ := hrel
      have HS' := Lib.hid hs'
      have HH := Lib.hid hh'
      clear hs' hh' hh
      by_cases hlt : k < n
      · have hc : wr.cell? ⟨g, k, none⟩ = some (cur'[k]?.getD undef) := by
          rw [blk_cell HH.out, Array.getElem?_eq_getElem (by rw [HS'.out]; omega)]; rfl
        have hf := blk_free HH.out k
        generalize cur'[k]?.getD undef = u at hc
        go_wp2
        go_roundw
        case rel => exact ⟨k + 1, by omega, by go_num, hg.trans (grown_set wr ⟨g, k, none⟩ _), _, blk_set HH.out k _, by simp [HS'.out]⟩
        case measure => simp [intOf]; omega
      · go_wp2
        go_end0
        exact ⟨⟨_, rfl⟩, hg⟩
theorem fmt_yes {f : Int} (h : f = 0 ∨ f = 1) : 0 < wideS f ∧ fmtE f = 0 := by rcases h with rfl | rfl <;> decide
theorem fmt_no {f : Int} (h : ¬ (f = 0 ∨ f = 1)) : wideS f = 0 ∧ fmtE f = 3 ∧ groupsS f = [] := by
  unfold wideS fmtE groupsS
  rw [if_neg (by omega), if_neg (by omega), if_neg (by omega), if_neg (by omega), if_neg (by omega), if_neg (by omega)]
  exact ⟨rfl, rfl, rfl⟩
theorem gs_len (f : Int) : (groupsS f).length ≤ 12 := by
  unfold groupsS; split
  · decide
  · split <;> decide
theorem Groups_any (f : Int) (w : World) :
    Calls Try.prog 39 #[.int .i64 f] w fun e w' => (∃ v, e = .returned (.tuple #[v, .int .i64 (fmtE f)]) ∧ w'.ownsRow w.heap.size 3 1 v (groupsS f).length ((groupsS f).map (Value.int .i64))) ∧ Below w.heap.size w w' := by
  by_cases h : f = 0 ∨ f = 1
  · obtain ⟨h1, h2⟩ := fmt_yes h
    have t : decide (0 < wideS f) = true := by simpa using h1
    rw [h2]; clear h1 h2
    go_enter Try.func39, Try.ntmps39
    go_wp2_with (first
      | (go_at_call 79; refine (there_any _ _).mono ?_; rintro e w' ⟨rfl, rfl⟩)
      | (go_at_call 82; refine (groups_any _ _ h).mono ?_; rintro e w' ⟨⟨v, rfl, hown⟩, hb⟩))
    go_ret2
    exact ⟨⟨_, rfl, hown⟩, hb⟩
  · obtain ⟨h1, h2, h3⟩ := fmt_no h
    have t : decide (0 < wideS f) = false := by rw [h1]; rfl
    rw [h2, h3]; clear h1 h2 h3 h
    go_enter Try.func39, Try.ntmps39
    go_wp2_with (first
      | (go_at_call 79; refine (there_any _ _).mono ?_; rintro e w' ⟨rfl, rfl⟩))
    go_ret2
    exact ⟨⟨_, rfl, World.ownsRow_nil _ _ _ _⟩, Below.refl _ _⟩
theorem owns_new {w : World} (t : TypeId) (us : List Value) (hl : us.length ≤ maxLen) : (w.alloc (.cells us.toArray t)).ownsRow w.heap.size t 1 (.slice (some ⟨w.heap.size, 0, none⟩) us.length us.length) us.length us :=
  ⟨by simp, .inr ⟨w.heap.size, us.length, us.toArray, rfl, Nat.le_refl _, World.alloc_heap_new w _, Nat.le_refl _, hl, by simp, by simp⟩⟩
theorem rGroups_any (f : Int) (w : World) :
    Calls Try.prog 40 #[.int .i64 f] w fun e w' => (∃ v, e = .returned (.tuple #[v, .int .i64 (fmtE f)]) ∧ w'.ownsRow w.heap.size 3 1 v (groupsS f).length ((groupsS f).map (Value.int .i64))) ∧ Below w.heap.size w w' := by
  by_cases h0 : f = 0
  · subst h0
    go_enter Try.func40, Try.ntmps40
    go_wp2
    go_ret2
    exact ⟨⟨_, rfl, owns_new 3 [.int .i64 1, .int .i64 3, .int .i64 5] (by decide)⟩, (Below.refl _ _).alloc (Nat.le_refl _) _⟩
  by_cases h1 : f = 1
  · subst h1
    go_enter Try.func40, Try.ntmps40
    go_wp2
    go_ret2
    exact ⟨⟨_, rfl, owns_new 3 [.int .i64 1, .int .i64 2, .int .i64 3, .int .i64 4, .int .i64 5, .int .i64 6, .int .i64 7, .int .i64 8, .int .i64 9, .int .i64 10, .int .i64 11, .int .i64 12] (by decide)⟩, (Below.refl _ _).alloc (Nat.le_refl _) _⟩
  · obtain ⟨_, h2, h3⟩ := fmt_no (show ¬ (f = 0 ∨ f = 1) by omega)
    rw [h2, h3]; clear h2 h3
    go_enter Try.func40, Try.ntmps40
    go_wp2
    go_ret2
    exact ⟨⟨_, rfl, World.ownsRow_nil _ _ _ _⟩, Below.refl _ _⟩
end Go.Proofs.Ytcieggaihelacaa
/- The contracts of slices.Concat at three lists, of frame.Next, frame.Corner and of the document's answers. -/
namespace Go.Proofs.Ytcieggaihelacaa
open Go.RowKit
set_option maxRecDepth 100000 in
theorem grow_any (n : Nat) (w : World) (h0 : 0 < n) (hn : n ≤ 1000) :
    Calls Try.prog 97 #[.slice none 0 0, .int .i64 n] w fun e w' => (∃ v, e = .returned v ∧ w'.ownsRow w.heap.size 3 1 v 0 []) ∧ Below w.heap.size w w' := by
  obtain ⟨i, hi, hz0, hz1, hz2⟩ := info_parts Try.elInt.info
  have hr := Lib.run_append_nil_zeros (P := Try.prog) w 46 3 46 3 i (.int .i64 0) .i64 .i64 Try.underlying46 Try.underlying3 hi hz0 n h0 (by omega) (by omega) (by rw [hz2]; omega)
  have hge := grownCap_ge w n 0 3
  have hle := grownCap_le_maxLen w n 0 3 (by simp [maxLen]; omega)
  generalize grownCap w n 0 3 = c at hr hge hle
  have HR := Lib.hid hr
  clear hr hi hz0 hz1 hz2
  go_enter Try.func97, Try.ntmps97
  go_wp2_with (at_builtin; refine Lib.wpList_append_run _ rfl (.tmp 20) (.tmp 21) _ _ rfl _ _ rfl rfl _ _ HR.out ?_)
  go_ret
  refine ⟨⟨_, rfl, by simp, .inr ⟨w.heap.size, c, _, rfl, Nat.le_refl _, World.alloc_heap_new w.drew _, Nat.zero_le _, hle, ?_, by simp⟩⟩, ((Below.refl _ w).drew).alloc (Nat.le_refl _) _⟩
  simp [Builtin.zeroCells]
  omega
def cat3 (A B C : List Int) (k : Nat) : List Int := if k = 0 then [] else if k = 1 then A else if k = 2 then A ++ B else A ++ B ++ C
theorem num4 {k : Nat} (h : k ≤ 3) : k = 0 ∨ k = 1 ∨ k = 2 ∨ k = 3 := by omega
set_option maxRecDepth 100000 in
theorem concat_any (b : Nat) (u0 u1 u2 : Value) (A B C : List Int) (w : World) (hb : b < w.heap.size)
    (c0 : w.cell? ⟨b, 0, none⟩ = some u0) (c1 : w.cell? ⟨b, 1, none⟩ = some u1) (c2 : w.cell? ⟨b, 2, none⟩ = some u2)
    (r0 : Rd .i64 w u0 A) (r1 : Rd .i64 w u1 B) (r2 : Rd .i64 w u2 C) (hA : A.length ≤ 100) (hB : B.length ≤ 100) (hC : C.length ≤ 100) (hpos : 0 < A.length) :
    Calls Try.prog 83 #[.slice (some ⟨b, 0, none⟩) 3 3] w fun e w' => (∃ v, e = .returned v ∧ w'.ownsRow w.heap.size 3 1 v (A ++ B ++ C).length ((A ++ B ++ C).map (Value.int .i64))) ∧ Below w.heap.size w w' := by
  obtain ⟨a0, p0, rfl⟩ := r0.form
  obtain ⟨a1, p1, rfl⟩ := r1.form
  obtain ⟨a2, p2, rfl⟩ := r2.form
  go_enter Try.func83, Try.ntmps83
  go_wp2
  go_loop [3, 11] (fun s i => ∃ k : Nat, k ≤ 3 ∧ i = .int .i64 k ∧ s = .int .i64 (cat3 A B C k).length) (fun _ i => 3 - (intOf i).toNat)
  case atStart => exact ⟨0, by omega, rfl, rfl⟩
  case round =>
    obtain ⟨k, hk, rfl, rfl⟩ := hrel
    rcases num4 hk with rfl | rfl | rfl | rfl
    · have e : (cat3 A B C 0).length = 0 := rfl
      rw [e]; clear e
      go_wp2
      go_round
      case rel => exact ⟨1, by omega, by go_num, by simp [cat3]⟩
      case measure => simp [intOf]
    · have e : (cat3 A B C 1).length = A.length := rfl
      rw [e]; clear e
      go_wp2
      go_round
      case rel => exact ⟨2, by omega, by go_num, by simp [cat3]⟩
      case measure => simp [intOf]
    · have e : (cat3 A B C 2).length = A.length + B.length := by simp [cat3]
      rw [e]; clear e
      go_wp2
      go_round
      case rel => exact ⟨3, by omega, by go_num, by simp [cat3]; omega⟩
      case measure => simp [intOf]
    · have e : (cat3 A B C 3).length = A.length + B.length + C.length := by simp [cat3]; omega
      rw [e]; clear e
      go_wp2_with (go_at_call 97; have hh := grow_any (A.length + B.length + C.length) w (by omega) (by omega); refine (by simpa using hh : Calls _ _ _ _ _).mono ?_; rintro e w' ⟨⟨v, rfl, hown⟩, hb1⟩)
      go_loopw [6, 27] (fun v i wr => ∃ k : Nat, k ≤ 3 ∧ i = .int .i64 k ∧ wr.ownsRow w.heap.size 3 1 v (cat3 A B C k).length ((cat3 A B C k).map (Value.int .i64)) ∧ Below w.heap.size w wr) (fun _ i _ => 3 - (intOf i).toNat)
      case atStart => exact ⟨0, by omega, rfl, by simpa [cat3] using hown, hb1⟩
      case round =>
        obtain ⟨k, hk2, rfl, hown, hb2⟩ := hrel
        clear hb1
        have k0 := (hb2.cell (p := ⟨b, 0, none⟩) hb).trans c0
        have k1 := (hb2.cell (p := ⟨b, 1, none⟩) hb).trans c1
        have k2 := (hb2.cell (p := ⟨b, 2, none⟩) hb).trans c2
        have d0 := r0.below hb2
        have d1 := r1.below hb2
        have d2 := r2.below hb2
        clear c0 c1 c2 r0 r1 r2
        rcases num4 hk2 with rfl | rfl | rfl | rfl
        · have e : (cat3 A B C 0).length = 0 := by simp [cat3]
          have e2 : cat3 A B C 1 = cat3 A B C 0 ++ A := by simp [cat3]
          have E2 := Lib.hid e2
          rw [e] at hown
          clear e e2
          go_wp2_with (at_builtin; refine wp_appN Try.elInt rfl rfl hown d0 (by omega) (by have := hb2.size; omega) ?_; intro g1 p1 w1 hown1 hgrow1 _)
          go_roundw
          case rel =>
            refine ⟨1, by omega, by go_num, ?_, hb2.grown hgrow1 hb2.size (fun j e => (hown.lt j e).1)⟩
            rw [E2.out, List.map_append, List.length_append]
            simpa [cat3, Nat.add_assoc] using hown1
          case measure => simp [intOf]
        · have e : (cat3 A B C 1).length = A.length := by simp [cat3]
          have e2 : cat3 A B C 2 = cat3 A B C 1 ++ B := by simp [cat3]
          have E2 := Lib.hid e2
          rw [e] at hown
          clear e e2
          go_wp2_with (at_builtin; refine wp_appN Try.elInt rfl rfl hown d1 (by omega) (by have := hb2.size; omega) ?_; intro g1 p1 w1 hown1 hgrow1 _)
          go_roundw
          case rel =>
            refine ⟨2, by omega, by go_num, ?_, hb2.grown hgrow1 hb2.size (fun j e => (hown.lt j e).1)⟩
            rw [E2.out, List.map_append, List.length_append]
            simpa [cat3, Nat.add_assoc] using hown1
          case measure => simp [intOf]
        · have e : (cat3 A B C 2).length = A.length + B.length := by simp [cat3]
          have e2 : cat3 A B C 3 = cat3 A B C 2 ++ C := by simp [cat3]
          have E2 := Lib.hid e2
          rw [e] at hown
          clear e e2
          go_wp2_with (at_builtin; refine wp_appN Try.elInt rfl rfl hown d2 (by omega) (by have := hb2.size; omega) ?_; intro g1 p1 w1 hown1 hgrow1 _)
          go_roundw
          case rel =>
            refine ⟨3, by omega, by go_num, ?_, hb2.grown hgrow1 hb2.size (fun j e => (hown.lt j e).1)⟩
            rw [E2.out, List.map_append, List.length_append]
            simpa [cat3, Nat.add_assoc] using hown1
          case measure => simp [intOf]
        · go_wp2
          go_ret
          exact ⟨⟨_, rfl, by simpa [cat3] using hown⟩, hb2⟩
end Go.Proofs.Ytcieggaihelacaa
/- The contracts of frame.Next, frame.Corner and of the document's Next, Corner, Place. -/
namespace Go.Proofs.Ytcieggaihelacaa
open Go.RowKit
def nextV (f g : Int) : Int := if f = 1 then (if 0 ≤ g ∧ g ≤ 11 then g + 1 else 0) else if f = 0 then (if g = 0 then 1 else if g = 1 then 3 else if g = 3 then 5 else 0) else 0
def nextE (f g : Int) : Int := if f = 1 then (if 0 ≤ g ∧ g ≤ 12 then 0 else 8) else if f = 0 then (if g = 0 ∨ g = 1 ∨ g = 3 ∨ g = 5 then 0 else 8) else 3
def nextL (f : Int) : List Int := [0] ++ groupsS f ++ [0]
theorem next_tells (f g : Int) (h : f = 0 ∨ f = 1) :
    (nextE f g = 8 ∧ nextV f g = 0 ∧ idxI g (nextL f) = -1) ∨
    (nextE f g = 0 ∧ ∃ k : Nat, idxI g (nextL f) = k ∧ k + 1 < (nextL f).length ∧ (nextL f)[k + 1]?.getD 0 = nextV f g) := by
  rcases h with rfl | rfl
  · by_cases g0 : g = 0
    · subst g0; exact Or.inr ⟨by decide, 0, by decide, by decide, by decide⟩
    by_cases g1 : g = 1
    · subst g1; exact Or.inr ⟨by decide, 1, by decide, by decide, by decide⟩
    by_cases g3 : g = 3
    · subst g3; exact Or.inr ⟨by decide, 2, by decide, by decide, by decide⟩
    by_cases g5 : g = 5
    · subst g5; exact Or.inr ⟨by decide, 3, by decide, by decide, by decide⟩
    · refine Or.inl ⟨by simp [nextE, *], by simp [nextV, *], ?_⟩
      simp [idxI, nextL, groupsS, *]
  · by_cases hg : 0 ≤ g ∧ g ≤ 12
    · have hc : g = 0 ∨ g = 1 ∨ g = 2 ∨ g = 3 ∨ g = 4 ∨ g = 5 ∨ g = 6 ∨ g = 7 ∨ g = 8 ∨ g = 9 ∨ g = 10 ∨ g = 11 ∨ g = 12 := by omega
      rcases hc with rfl | rfl | rfl | rfl | rfl | rfl | rfl | rfl | rfl | rfl | rfl | rfl | rfl
      · exact Or.inr ⟨by decide, 0, by decide, by decide, by decide⟩
      · exact Or.inr ⟨by decide, 1, by decide, by decide, by decide⟩
      · exact Or.inr ⟨by decide, 2, by decide, by decide, by decide⟩
      · exact Or.inr ⟨by decide, 3, by decide, by decide, by decide⟩
      · exact Or.inr ⟨by decide, 4, by decide, by decide, by decide⟩
      · exact Or.inr ⟨by decide, 5, by decide, by decide, by decide⟩
      · exact Or.inr ⟨by decide, 6, by decide, by decide, by decide⟩
      · exact Or.inr ⟨by decide, 7, by decide, by decide, by decide⟩
      · exact Or.inr ⟨by decide, 8, by decide, by decide, by decide⟩
      · exact Or.inr ⟨by decide, 9, by decide, by decide, by decide⟩
      · exact Or.inr ⟨by decide, 10, by decide, by decide, by decide⟩
      · exact Or.inr ⟨by decide, 11, by decide, by decide, by decide⟩
      · exact Or.inr ⟨by decide, 12, by decide, by decide, by decide⟩
    · refine Or.inl ⟨by simp [nextE]; omega, by simp [nextV]; omega, ?_⟩
      have : g ∉ nextL 1 := by simp [nextL, groupsS]; omega
      simp only [idxI, if_neg this]
theorem concat_next (f : Int) (w1 : World) (a : Option Addr) (c : Nat) (hrd : Rd .i64 w1 (.slice a (groupsS f).length c) (groupsS f)) :
    Calls Try.prog 83 #[.slice (some ⟨w1.heap.size + 1 + 1, 0, none⟩) 3 3]
      (((w1.alloc (.cells #[.int .i64 0] 3)).alloc (.cells #[.int .i64 0] 3)).alloc (.cells #[.slice (some ⟨w1.heap.size, 0, none⟩) 1 1, .slice a (groupsS f).length c, .slice (some ⟨w1.heap.size + 1, 0, none⟩) 1 1] 46))
      fun e w' => (∃ b off cap, e = .returned (.slice (some ⟨b, off, none⟩) (nextL f).length cap) ∧ Rd .i64 w' (.slice (some ⟨b, off, none⟩) (nextL f).length cap) (nextL f) ∧
        ∀ i : Nat, i < (nextL f).length → w'.cell? ⟨b, off + i, none⟩ = some (.int .i64 ((nextL f)[i]?.getD 0))) ∧ Below w1.heap.size w1 w' := by
  have hl := gs_len f
  refine (concat_any (w1.heap.size + 1 + 1) (.slice (some ⟨w1.heap.size, 0, none⟩) 1 1) (.slice a (groupsS f).length c) (.slice (some ⟨w1.heap.size + 1, 0, none⟩) 1 1) [0] (groupsS f) [0] _ (by simp) (by simp [go_sem]) (by simp [go_sem]) (by simp [go_sem]) (((Rd.new1 _ _ _ _).alloc _).alloc _) (((hrd.alloc _).alloc _).alloc _) (by have := (Rd.new1 .i64 (w1.alloc (.cells #[.int .i64 0] 3)) 0 3).alloc (.cells #[.slice (some ⟨w1.heap.size, 0, none⟩) 1 1, .slice a (groupsS f).length c, .slice (some ⟨w1.heap.size + 1, 0, none⟩) 1 1] 46); simpa using this) (by simp) (by omega) (by simp) (by simp)).mono ?_
  rintro e w' ⟨⟨v, rfl, hown⟩, hb⟩
  have hr : Rd .i64 w' v (nextL f) := Rd.of_owns hown (by simp [nextL]; omega)
  refine ⟨?_, ?_⟩
  · rcases id hr with ⟨_, h0⟩ | ⟨b, off, cap, rfl, _, _, _, hc⟩
    · simp [nextL] at h0
    · exact ⟨b, off, cap, rfl, hr, hc⟩
  · have h0 : Below w1.heap.size w1 (((w1.alloc (.cells #[.int .i64 0] 3)).alloc (.cells #[.int .i64 0] 3)).alloc (.cells #[.slice (some ⟨w1.heap.size, 0, none⟩) 1 1, .slice a (groupsS f).length c, .slice (some ⟨w1.heap.size + 1, 0, none⟩) 1 1] 46)) :=
      (((Below.refl _ w1).alloc (Nat.le_refl _) _).alloc (by simp) _).alloc (by simp; omega) _
    exact h0.trans (hb.mono (by simp; omega))
set_option maxRecDepth 100000 in
theorem Next_any (f g : Int) (w : World) :
    Calls Try.prog 41 #[.int .i64 f, .int .i64 g] w fun e w' => e = .returned (.tuple #[.int .i64 (nextV f g), .int .i64 (nextE f g)]) ∧ Below w.heap.size w w' := by
  by_cases h : f = 0 ∨ f = 1
  · obtain ⟨_, h2⟩ := fmt_yes h
    have hl := gs_len f
    have hL : (nextL f).length ≤ 14 := by simp [nextL]; omega
    have ht := next_tells f g h
    generalize hE : nextE f g = E at ht
    generalize hV : nextV f g = V at ht
    have HE := Lib.hid hE
    have HV := Lib.hid hV
    clear hE hV
    rcases ht with ⟨rfl, rfl, hi⟩ | ⟨rfl, k, hi, hk, hv⟩
    · have HI := Lib.hid hi
      clear hi
      go_enter Try.func41, Try.ntmps41
      go_wp2_with (first
        | (go_at_call 39; refine (Groups_any _ _).mono ?_; rintro e w1 ⟨⟨v, rfl, hown⟩, hb⟩; have hrd := Rd.of_owns hown (by omega); obtain ⟨a, c, rfl⟩ := hrd.form)
        | (go_at_call 83; refine (concat_next f w1 _ _ hrd).mono ?_; rintro e w2 ⟨⟨b, off, cap, rfl, hr2, hc2⟩, hb2⟩; clear hc2)
        | (go_at_call 84; refine (index_any _ _ _ _ hr2).mono ?_; rintro e w3 ⟨rfl, rfl⟩; rw [HI.out]))
      go_ret2
      exact ⟨rfl, hb.trans (hb2.mono hb.size)⟩
    · have HI := Lib.hid hi
      have HV2 := Lib.hid hv
      have hkb : (k : Int) + 1 < ((nextL f).length : Int) := by omega
      have hkt : ((k : Int) + 1).toNat = k + 1 := by omega
      clear hi hv
      go_enter Try.func41, Try.ntmps41
      go_wp2_with (first
        | (go_at_call 39; refine (Groups_any _ _).mono ?_; rintro e w1 ⟨⟨v, rfl, hown⟩, hb⟩; have hrd := Rd.of_owns hown (by omega); obtain ⟨a, c, rfl⟩ := hrd.form)
        | (go_at_call 83; refine (concat_next f w1 _ _ hrd).mono ?_; rintro e w2 ⟨⟨b, off, cap, rfl, hr2, hc2⟩, hb2⟩; have hck := hc2 (k + 1) hk; rw [HV2.out] at hck; clear hc2)
        | (go_at_call 84; refine (index_any _ _ _ _ hr2).mono ?_; rintro e w3 ⟨rfl, rfl⟩; rw [HI.out]))
      go_ret2
      exact ⟨rfl, hb.trans (hb2.mono hb.size)⟩
  · obtain ⟨_, h2, _⟩ := fmt_no h
    have hE : nextE f g = 3 := by unfold nextE; rw [if_neg (by omega), if_neg (by omega)]
    have hV : nextV f g = 0 := by unfold nextV; rw [if_neg (by omega), if_neg (by omega)]
    rw [hE, hV]; clear hE hV h
    go_enter Try.func41, Try.ntmps41
    go_wp2_with (go_at_call 39; refine (Groups_any _ _).mono ?_; rintro e w' ⟨⟨v, rfl, hown⟩, hb⟩)
    go_ret2
    exact ⟨rfl, hb⟩
end Go.Proofs.Ytcieggaihelacaa
/- The contracts of frame.Corner and of the document's Next, Corner, Place. -/
namespace Go.Proofs.Ytcieggaihelacaa
open Go.RowKit
theorem groups_bd {f g : Int} (h : g ∈ groupsS f) : 1 ≤ g ∧ g ≤ 12 := by
  unfold groupsS at h
  split at h
  · simp at h; omega
  · split at h
    · simp at h; omega
    · simp at h
theorem gs_pos {f : Int} (h : f = 0 ∨ f = 1) : 0 < (groupsS f).length := by rcases h with rfl | rfl <;> decide
theorem idx_mem (x : Int) (xs : List Int) : (0 ≤ idxI x xs) = (x ∈ xs) := by
  unfold idxI
  by_cases h : x ∈ xs <;> simp [h]
theorem rnext_tells (f g : Int) (h : f = 0 ∨ f = 1) (h0 : g ≠ 0) :
    (nextE f g = 8 ∧ nextV f g = 0 ∧ g ∉ groupsS f ∧ ∀ j, j < (groupsS f).length → (groupsS f)[j]?.getD 0 ≠ g) ∨
    (nextE f g = 0 ∧ g ∈ groupsS f ∧ ∃ k : Nat, k < (groupsS f).length ∧ (groupsS f)[k]?.getD 0 = g ∧ (∀ j, j < k → (groupsS f)[j]?.getD 0 ≠ g) ∧ ((k + 1 = (groupsS f).length ∧ nextV f g = 0) ∨ (k + 1 < (groupsS f).length ∧ (groupsS f)[k + 1]?.getD 0 = nextV f g))) := by
  by_cases hm : g ∈ groupsS f
  · right
    rcases h with rfl | rfl
    · have hc : g = 1 ∨ g = 3 ∨ g = 5 := by simpa [groupsS] using hm
      rcases hc with rfl | rfl | rfl
      · exact ⟨by decide, hm, 0, by decide, by decide, by decide, by decide⟩
      · exact ⟨by decide, hm, 1, by decide, by decide, by decide, by decide⟩
      · exact ⟨by decide, hm, 2, by decide, by decide, by decide, by decide⟩
    · have hc : g = 1 ∨ g = 2 ∨ g = 3 ∨ g = 4 ∨ g = 5 ∨ g = 6 ∨ g = 7 ∨ g = 8 ∨ g = 9 ∨ g = 10 ∨ g = 11 ∨ g = 12 := by simpa [groupsS] using hm
      rcases hc with rfl | rfl | rfl | rfl | rfl | rfl | rfl | rfl | rfl | rfl | rfl | rfl
      · exact ⟨by decide, hm, 0, by decide, by decide, by decide, by decide⟩
      · exact ⟨by decide, hm, 1, by decide, by decide, by decide, by decide⟩
      · exact ⟨by decide, hm, 2, by decide, by decide, by decide, by decide⟩
      · exact ⟨by decide, hm, 3, by decide, by decide, by decide, by decide⟩
      · exact ⟨by decide, hm, 4, by decide, by decide, by decide, by decide⟩
      · exact ⟨by decide, hm, 5, by decide, by decide, by decide, by decide⟩
      · exact ⟨by decide, hm, 6, by decide, by decide, by decide, by decide⟩
      · exact ⟨by decide, hm, 7, by decide, by decide, by decide, by decide⟩
      · exact ⟨by decide, hm, 8, by decide, by decide, by decide, by decide⟩
      · exact ⟨by decide, hm, 9, by decide, by decide, by decide, by decide⟩
      · exact ⟨by decide, hm, 10, by decide, by decide, by decide, by decide⟩
      · exact ⟨by decide, hm, 11, by decide, by decide, by decide, by decide⟩
  · left
    have hn : ∀ j, j < (groupsS f).length → (groupsS f)[j]?.getD 0 ≠ g := fun j hj e => hm (by
      rw [← e]; simp [hj])
    rcases h with rfl | rfl
    · have hm' := hm
      simp [groupsS] at hm'
      exact ⟨by simp [nextE]; omega, by simp [nextV]; omega, hm, hn⟩
    · have hm' := hm
      simp [groupsS] at hm'
      exact ⟨by simp [nextE]; omega, by simp [nextV]; omega, hm, hn⟩
set_option maxRecDepth 100000 in
set_option maxHeartbeats 1000000 in
theorem rNext_any (f g : Int) (w : World) :
    Calls Try.prog 42 #[.int .i64 f, .int .i64 g] w fun e w' => e = .returned (.tuple #[.int .i64 (nextV f g), .int .i64 (nextE f g)]) ∧ Below w.heap.size w w' := by
  by_cases h : f = 0 ∨ f = 1
  · obtain ⟨_, h2⟩ := fmt_yes h
    have hl := gs_len f
    have hp := gs_pos h
    by_cases h0 : g = 0
    · subst h0
      have hV : nextV f 0 = 1 := by rcases h with rfl | rfl <;> decide
      have hE : nextE f 0 = 0 := by rcases h with rfl | rfl <;> decide
      rw [hV, hE]; clear hV hE
      go_enter Try.func42, Try.ntmps42
      go_wp2_with (go_at_call 40; refine (rGroups_any _ _).mono ?_; rintro e w1 ⟨⟨v, rfl, hown⟩, hb⟩; have hrd := Rd.of_owns hown (by omega); obtain ⟨a, c, rfl⟩ := hrd.form)
      go_ret2
      exact ⟨rfl, hb⟩
    · have ht := rnext_tells f g h h0
      have hg0 : (g == 0) = false := by simpa using h0
      generalize hE : nextE f g = E at ht
      generalize hV : nextV f g = V at ht
      clear hE hV h0 h
      rcases ht with ⟨rfl, rfl, _, hn⟩ | ⟨rfl, _, k0, hk0, hx0, hn, hv⟩
      · have HN := Lib.hid hn
        clear hn
        go_enter Try.func42, Try.ntmps42
        go_wp2_with (go_at_call 40; refine (rGroups_any _ _).mono ?_; rintro e w1 ⟨⟨v, rfl, hown⟩, hb⟩; have hrd := Rd.of_owns hown (by omega); obtain ⟨b, off, cap, rfl, _, hcap, hc⟩ := hrd.solid hp; clear hown hrd)
        go_loop [8] (fun i => ∃ k : Nat, k ≤ (groupsS f).length ∧ i = .int .i64 k) (fun i => (groupsS f).length - (intOf i).toNat)
        case atStart => exact ⟨0, by omega, rfl⟩
        case round =>
          obtain ⟨k, hk, rfl⟩ := hrel
          by_cases hlt : k < (groupsS f).length
          · have hkl : (k : Int) < ((groupsS f).length : Int) := by omega
            have hck := hc k hlt
            have hne := HN.out k (by omega)
            generalize (groupsS f)[k]?.getD 0 = y at hck hne
            have hy : (y == g) = false := by simpa using hne
            clear hne hc
            go_wp2
            go_round
            case rel => exact ⟨k + 1, by omega, by go_num⟩
            case measure => simp [intOf]; omega
          · go_wp2
            go_ret2
            exact ⟨rfl, hb⟩
      · have HN := Lib.hid hn
        have HX := Lib.hid hx0
        clear hn hx0
        go_enter Try.func42, Try.ntmps42
        go_wp2_with (go_at_call 40; refine (rGroups_any _ _).mono ?_; rintro e w1 ⟨⟨v, rfl, hown⟩, hb⟩; have hrd := Rd.of_owns hown (by omega); obtain ⟨b, off, cap, rfl, _, hcap, hc⟩ := hrd.solid hp; clear hown hrd)
        go_loop [8] (fun i => ∃ k : Nat, k ≤ k0 ∧ i = .int .i64 k) (fun i => k0 + 1 - (intOf i).toNat)
        case atStart => exact ⟨0, by omega, rfl⟩
        case round =>
          obtain ⟨k, hk, rfl⟩ := hrel
          have hkl : (k : Int) < ((groupsS f).length : Int) := by omega
          by_cases hlt0 : k < k0
          · have hlt : k < (groupsS f).length := by omega
            have hck := hc k hlt
            have hne := HN.out k (by omega)
            generalize (groupsS f)[k]?.getD 0 = y at hck hne
            have hy : (y == g) = false := by simpa using hne
            clear hne hc
            go_wp2
            go_round
            case rel => exact ⟨k + 1, by omega, by go_num⟩
            case measure => simp [intOf]; omega
          · have e : k = k0 := by omega
            subst e
            have hck := hc k hk0
            rw [HX.out] at hck
            rcases hv with ⟨he, rfl⟩ | ⟨he, hve⟩
            · have ht : ((k : Int) == ((groupsS f).length : Int) - 1) = true := by simp; omega
              clear hc he
              go_wp2
              go_ret2
              exact ⟨rfl, hb⟩
            · have ht : ((k : Int) == ((groupsS f).length : Int) - 1) = false := by simp; omega
              have hck2 := hc (k + 1) he
              rw [hve] at hck2
              have hkt : ((k : Int) + 1).toNat = k + 1 := by omega
              have hkb : (k : Int) + 1 < ((groupsS f).length : Int) := by omega
              clear hc he hve
              go_wp2
              go_ret2
              exact ⟨rfl, hb⟩
  · obtain ⟨_, h2, _⟩ := fmt_no h
    have hE : nextE f g = 3 := by unfold nextE; rw [if_neg (by omega), if_neg (by omega)]
    have hV : nextV f g = 0 := by unfold nextV; rw [if_neg (by omega), if_neg (by omega)]
    rw [hE, hV]; clear hE hV h
    go_enter Try.func42, Try.ntmps42
    go_wp2_with (go_at_call 40; refine (rGroups_any _ _).mono ?_; rintro e w' ⟨⟨v, rfl, hown⟩, hb⟩)
    go_ret2
    exact ⟨rfl, hb⟩
end Go.Proofs.Ytcieggaihelacaa
/- The contracts of frame.Corner and of the document's Corner and Place. -/
namespace Go.Proofs.Ytcieggaihelacaa
open Go.RowKit
def cornE (f g a : Int) : Int := if f = 0 ∨ f = 1 then (if g ∈ groupsS f then (if 1 ≤ a ∧ a ≤ 33 then 0 else 13) else 8) else 3
def cornX (f g a : Int) : Int := if cornE f g a = 0 then cornerX f g a else 0
def cornY (f g a : Int) : Int := if cornE f g a = 0 then cornerY g a else 0
theorem corn_cases (f g a : Int) :
    (¬ (f = 0 ∨ f = 1) ∧ cornE f g a = 3 ∧ cornX f g a = 0 ∧ cornY f g a = 0) ∨
    ((f = 0 ∨ f = 1) ∧ g ∉ groupsS f ∧ cornE f g a = 8 ∧ cornX f g a = 0 ∧ cornY f g a = 0) ∨
    ((f = 0 ∨ f = 1) ∧ g ∈ groupsS f ∧ ¬ (1 ≤ a ∧ a ≤ 33) ∧ cornE f g a = 13 ∧ cornX f g a = 0 ∧ cornY f g a = 0) ∨
    ((f = 0 ∨ f = 1) ∧ g ∈ groupsS f ∧ (1 ≤ a ∧ a ≤ 33) ∧ cornE f g a = 0 ∧ cornX f g a = cornerX f g a ∧ cornY f g a = cornerY g a) := by
  unfold cornX cornY
  by_cases h1 : f = 0 ∨ f = 1
  · by_cases h2 : g ∈ groupsS f
    · by_cases h3 : 1 ≤ a ∧ a ≤ 33
      · have e : cornE f g a = 0 := by unfold cornE; rw [if_pos h1, if_pos h2, if_pos h3]
        rw [e]; exact Or.inr (Or.inr (Or.inr ⟨h1, h2, h3, rfl, rfl, rfl⟩))
      · have e : cornE f g a = 13 := by unfold cornE; rw [if_pos h1, if_pos h2, if_neg h3]
        rw [e]; exact Or.inr (Or.inr (Or.inl ⟨h1, h2, h3, rfl, rfl, rfl⟩))
    · have e : cornE f g a = 8 := by unfold cornE; rw [if_pos h1, if_neg h2]
      rw [e]; exact Or.inr (Or.inl ⟨h1, h2, rfl, rfl, rfl⟩)
  · have e : cornE f g a = 3 := by unfold cornE; rw [if_neg h1]
    rw [e]; exact Or.inl ⟨h1, rfl, rfl, rfl⟩
set_option maxRecDepth 100000 in
set_option maxHeartbeats 1000000 in
theorem Corner_any (f g a : Int) (w : World) (ha : -9223372036854775808 ≤ a) (ha2 : a ≤ 9223372036854775807) :
    Calls Try.prog 46 #[.int .i64 f, .int .i64 g, .int .i64 a] w fun e w' => e = .returned (.tuple #[.int .i64 (cornX f g a), .int .i64 (cornY f g a), .int .i64 (cornE f g a)]) ∧ Below w.heap.size w w' := by
  have hl := gs_len f
  rcases corn_cases f g a with ⟨h, e1, e2, e3⟩ | ⟨h, hg, e1, e2, e3⟩ | ⟨h, hg, h3, e1, e2, e3⟩ | ⟨h, hg, h3, e1, e2, e3⟩
  · rw [e1, e2, e3]; clear e1 e2 e3
    obtain ⟨_, h2, _⟩ := fmt_no h
    clear h
    go_enter Try.func46, Try.ntmps46
    go_wp2_with (go_at_call 39; refine (Groups_any _ _).mono ?_; rintro e w1 ⟨⟨v, rfl, hown⟩, hb⟩)
    exact bodyPost_ret (by simp [results, Try.results46, go_sem]) rfl ⟨rfl, hb⟩
  · rw [e1, e2, e3]; clear e1 e2 e3
    obtain ⟨_, h2⟩ := fmt_yes h
    rw [← idx_mem] at hg
    have ht : decide (0 ≤ idxI g (groupsS f)) = false := by simpa using hg
    clear h hg
    go_enter Try.func46, Try.ntmps46
    go_wp2_with (first
      | (go_at_call 39; refine (Groups_any _ _).mono ?_; rintro e w1 ⟨⟨v, rfl, hown⟩, hb⟩; have hrd := Rd.of_owns hown (by omega))
      | (go_at_call 85; refine (contains_any _ _ _ _ hrd).mono ?_; rintro e w2 ⟨rfl, rfl⟩))
    exact bodyPost_ret (by simp [results, Try.results46, go_sem]) rfl ⟨rfl, hb⟩
  · rw [e1, e2, e3]; clear e1 e2 e3
    obtain ⟨_, h2⟩ := fmt_yes h
    rw [← idx_mem] at hg
    have ht : decide (0 ≤ idxI g (groupsS f)) = true := by simpa using hg
    clear h hg
    by_cases h5 : a < 1
    · clear h3
      go_enter Try.func46, Try.ntmps46
      go_wp2_with (first
        | (go_at_call 39; refine (Groups_any _ _).mono ?_; rintro e w1 ⟨⟨v, rfl, hown⟩, hb⟩; have hrd := Rd.of_owns hown (by omega))
        | (go_at_call 85; refine (contains_any _ _ _ _ hrd).mono ?_; rintro e w2 ⟨rfl, rfl⟩))
      exact bodyPost_ret (by simp [results, Try.results46, go_sem]) rfl ⟨rfl, hb⟩
    · have h6 : 33 < a := by omega
      clear h3
      go_enter Try.func46, Try.ntmps46
      go_wp2_with (first
        | (go_at_call 39; refine (Groups_any _ _).mono ?_; rintro e w1 ⟨⟨v, rfl, hown⟩, hb⟩; have hrd := Rd.of_owns hown (by omega))
        | (go_at_call 85; refine (contains_any _ _ _ _ hrd).mono ?_; rintro e w2 ⟨rfl, rfl⟩))
      exact bodyPost_ret (by simp [results, Try.results46, go_sem]) rfl ⟨rfl, hb⟩
  · rw [e1, e2, e3]; clear e1 e2 e3
    obtain ⟨_, h2⟩ := fmt_yes h
    obtain ⟨g1, g2⟩ := groups_bd hg
    rw [← idx_mem] at hg
    have ht : decide (0 ≤ idxI g (groupsS f)) = true := by simpa using hg
    obtain ⟨h3, h4⟩ := h3
    have HF := Lib.hid h
    clear h hg
    go_enter Try.func46, Try.ntmps46
    go_wp2_with (first
      | (go_at_call 39; refine (Groups_any _ _).mono ?_; rintro e w1 ⟨⟨v, rfl, hown⟩, hb⟩; have hrd := Rd.of_owns hown (by omega))
      | (go_at_call 85; refine (contains_any _ _ _ _ hrd).mono ?_; rintro e w2 ⟨rfl, rfl⟩)
      | (go_at_call 86; refine (fcorner_any f g a _ HF.out g1 g2 h3 h4).mono ?_; rintro e w2 ⟨rfl, rfl⟩))
    exact bodyPost_ret (by simp [results, Try.results46, go_sem]) rfl ⟨rfl, hb⟩
theorem next_mem {f g : Int} (h : f = 0 ∨ f = 1) : (g = 0 ∧ nextE f g = 0 ∧ g ∉ groupsS f) ∨ (g ≠ 0 ∧ nextE f g = 0 ∧ g ∈ groupsS f) ∨ (g ≠ 0 ∧ nextE f g = 8 ∧ g ∉ groupsS f) := by
  by_cases h0 : g = 0
  · subst h0
    left
    rcases h with rfl | rfl <;> decide
  · rcases rnext_tells f g h h0 with ⟨a, _, b, _⟩ | ⟨a, b, _⟩
    · exact Or.inr (Or.inr ⟨h0, a, b⟩)
    · exact Or.inr (Or.inl ⟨h0, a, b⟩)
set_option maxRecDepth 100000 in
set_option maxHeartbeats 1000000 in
theorem rCorner_any (f g a : Int) (w : World) (ha : -9223372036854775808 ≤ a) (ha2 : a ≤ 9223372036854775807) :
    Calls Try.prog 47 #[.int .i64 f, .int .i64 g, .int .i64 a] w fun e w' => e = .returned (.tuple #[.int .i64 (cornX f g a), .int .i64 (cornY f g a), .int .i64 (cornE f g a)]) ∧ Below w.heap.size w w' := by
  rcases corn_cases f g a with ⟨h, e1, e2, e3⟩ | ⟨h, hg, e1, e2, e3⟩ | ⟨h, hg, h3, e1, e2, e3⟩ | ⟨h, hg, h3, e1, e2, e3⟩
  · rw [e1, e2, e3]; clear e1 e2 e3
    have hE : nextE f g = 3 := by unfold nextE; rw [if_neg (by omega), if_neg (by omega)]
    clear h
    go_enter Try.func47, Try.ntmps47
    go_wp2_with (go_at_call 42; refine (rNext_any _ _ _).mono ?_; rintro e w1 ⟨rfl, hb⟩)
    exact bodyPost_ret (by simp [results, Try.results47, go_sem]) rfl ⟨rfl, hb⟩
  · rw [e1, e2, e3]; clear e1 e2 e3
    rcases next_mem (g := g) h with ⟨rfl, hE, _⟩ | ⟨_, _, hm⟩ | ⟨h0, hE, _⟩
    · clear h hg
      go_enter Try.func47, Try.ntmps47
      go_wp2_with (go_at_call 42; refine (rNext_any _ _ _).mono ?_; rintro e w1 ⟨rfl, hb⟩)
      exact bodyPost_ret (by simp [results, Try.results47, go_sem]) rfl ⟨rfl, hb⟩
    · exact absurd hm hg
    · clear h hg
      go_enter Try.func47, Try.ntmps47
      go_wp2_with (go_at_call 42; refine (rNext_any _ _ _).mono ?_; rintro e w1 ⟨rfl, hb⟩)
      exact bodyPost_ret (by simp [results, Try.results47, go_sem]) rfl ⟨rfl, hb⟩
  · rw [e1, e2, e3]; clear e1 e2 e3
    rcases next_mem (g := g) h with ⟨rfl, _, hm⟩ | ⟨h0, hE, hm⟩ | ⟨h0, _, hm⟩
    · exact absurd hg hm
    · have h0' : (g == 0) = false := by simpa using h0
      clear h hg hm h0
      by_cases h5 : a < 1
      · clear h3
        go_enter Try.func47, Try.ntmps47
        go_wp2_with (go_at_call 42; refine (rNext_any _ _ _).mono ?_; rintro e w1 ⟨rfl, hb⟩)
        exact bodyPost_ret (by simp [results, Try.results47, go_sem]) rfl ⟨rfl, hb⟩
      · have h6 : 33 < a := by omega
        clear h3
        go_enter Try.func47, Try.ntmps47
        go_wp2_with (go_at_call 42; refine (rNext_any _ _ _).mono ?_; rintro e w1 ⟨rfl, hb⟩)
        exact bodyPost_ret (by simp [results, Try.results47, go_sem]) rfl ⟨rfl, hb⟩
    · exact absurd hg hm
  · rw [e1, e2, e3]; clear e1 e2 e3
    obtain ⟨g1, g2⟩ := groups_bd hg
    obtain ⟨h3, h4⟩ := h3
    unfold cornerX cornerY
    rcases next_mem (g := g) h with ⟨rfl, _, hm⟩ | ⟨h0, hE, hm⟩ | ⟨h0, _, hm⟩
    · exact absurd hg hm
    · have h0' : (g == 0) = false := by simpa using h0
      clear hg hm h0
      rcases h with rfl | rfl
      · rw [Int.zero_mul, Int.add_zero]
        go_enter Try.func47, Try.ntmps47
        go_wp2_with (go_at_call 42; refine (rNext_any _ _ _).mono ?_; rintro e w1 ⟨rfl, hb⟩)
        exact bodyPost_ret (by simp [results, Try.results47, go_sem]) rfl ⟨rfl, hb⟩
      · rw [Int.one_mul]
        go_enter Try.func47, Try.ntmps47
        go_wp2_with (go_at_call 42; refine (rNext_any _ _ _).mono ?_; rintro e w1 ⟨rfl, hb⟩)
        exact bodyPost_ret (by simp [results, Try.results47, go_sem]) rfl ⟨rfl, hb⟩
    · exact absurd hg hm
end Go.Proofs.Ytcieggaihelacaa
/- The contract of the document's Place; the plain functions that tell a block's place. -/
namespace Go.Proofs.Ytcieggaihelacaa
open Go.RowKit
def plcV (f X Y b : Int) : Int := if b ≤ 4 then (Y + (b - 1) / 2 * 8) * wideS f + X + (b - 1) % 2 * 8 else wideS f * highS f + (b - 5) * (wideS f * highS f / 4) + Y / 2 * (wideS f / 2) + X / 2
def plcS (f b : Int) : Int := if b ≤ 4 then wideS f else wideS f / 2
def plE (f g a b : Int) : Int := if cornE f g a = 0 then (if 1 ≤ b ∧ b ≤ 6 then 0 else 3) else cornE f g a
def plA (f g a b : Int) : Int := if plE f g a b = 0 then plcV f (cornerX f g a) (cornerY g a) b else 0
def plS (f g a b : Int) : Int := if plE f g a b = 0 then plcS f b else 0
theorem corner_bd {f g a : Int} (h : f = 0 ∨ f = 1) (hg : g ∈ groupsS f) (ha : 1 ≤ a ∧ a ≤ 33) : 0 ≤ cornerX f g a ∧ cornerX f g a + 16 ≤ wideS f ∧ 0 ≤ cornerY g a ∧ cornerY g a + 16 ≤ highS f := by
  obtain ⟨g1, g2⟩ := groups_bd hg
  unfold cornerX cornerY
  rcases h with rfl | rfl
  · have hc : g = 1 ∨ g = 3 ∨ g = 5 := by simpa [groupsS] using hg
    have w : wideS 0 = 176 := rfl
    have h : highS 0 = 144 := rfl
    rw [w, h]
    omega
  · have w : wideS 1 = 352 := rfl
    have h : highS 1 = 288 := rfl
    rw [w, h]
    omega
theorem pl_cases (f g a b : Int) :
    (plE f g a b ≠ 0 ∧ cornE f g a ≠ 0 ∧ plE f g a b = cornE f g a ∧ plA f g a b = 0 ∧ plS f g a b = 0) ∨
    (cornE f g a = 0 ∧ ¬ (1 ≤ b ∧ b ≤ 6) ∧ plE f g a b = 3 ∧ plA f g a b = 0 ∧ plS f g a b = 0) ∨
    (cornE f g a = 0 ∧ (1 ≤ b ∧ b ≤ 6) ∧ plE f g a b = 0 ∧ plA f g a b = plcV f (cornerX f g a) (cornerY g a) b ∧ plS f g a b = plcS f b) := by
  unfold plA plS
  by_cases h1 : cornE f g a = 0
  · by_cases h2 : 1 ≤ b ∧ b ≤ 6
    · have e : plE f g a b = 0 := by unfold plE; rw [if_pos h1, if_pos h2]
      rw [e]; exact Or.inr (Or.inr ⟨h1, h2, rfl, rfl, rfl⟩)
    · have e : plE f g a b = 3 := by unfold plE; rw [if_pos h1, if_neg h2]
      rw [e]; exact Or.inr (Or.inl ⟨h1, h2, rfl, rfl, rfl⟩)
  · have e : plE f g a b = cornE f g a := by unfold plE; rw [if_neg h1]
    rw [e, if_neg h1, if_neg h1]; exact Or.inl ⟨h1, h1, rfl, rfl, rfl⟩
theorem corn_ok {f g a : Int} (h : cornE f g a = 0) : (f = 0 ∨ f = 1) ∧ g ∈ groupsS f ∧ (1 ≤ a ∧ a ≤ 33) ∧ cornX f g a = cornerX f g a ∧ cornY f g a = cornerY g a := by
  rcases corn_cases f g a with ⟨_, e, _⟩ | ⟨_, _, e, _⟩ | ⟨_, _, _, e, _⟩ | ⟨h1, h2, h3, e, h4, h5⟩
  · rw [h] at e; cases e
  · rw [h] at e; cases e
  · rw [h] at e; cases e
  · exact ⟨h1, h2, h3, h4, h5⟩
set_option maxRecDepth 100000 in
set_option maxHeartbeats 1000000 in
theorem rPlace_any (f g a b : Int) (w : World) (ha : -9223372036854775808 ≤ a) (ha2 : a ≤ 9223372036854775807) :
    Calls Try.prog 49 #[.int .i64 f, .int .i64 g, .int .i64 a, .int .i64 b] w fun e w' => e = .returned (.tuple #[.int .i64 (plA f g a b), .int .i64 (plS f g a b), .int .i64 (plE f g a b)]) ∧ Below w.heap.size w w' := by
  rcases pl_cases f g a b with ⟨_, hc, e1, e2, e3⟩ | ⟨hc, hb, e1, e2, e3⟩ | ⟨hc, hb, e1, e2, e3⟩
  · rw [e1, e2, e3]; clear e1 e2 e3
    have ht : (cornE f g a != 0) = true := by simpa using hc
    clear hc
    go_enter Try.func49, Try.ntmps49
    go_wp2_with (go_at_call 47; refine (rCorner_any _ _ _ _ ha ha2).mono ?_; rintro e w1 ⟨rfl, hb⟩)
    exact bodyPost_ret (by simp [results, Try.results49, go_sem]) rfl ⟨rfl, hb⟩
  · rw [e1, e2, e3]; clear e1 e2 e3
    by_cases h1 : b < 1
    · clear hb
      go_enter Try.func49, Try.ntmps49
      go_wp2_with (first
        | (go_at_call 47; refine (rCorner_any _ _ _ _ ha ha2).mono ?_; rintro e w1 ⟨rfl, hb⟩)
        | (go_at_call 38; refine (rsize_any _ _).mono ?_; rintro e w2 ⟨rfl, rfl⟩))
      exact bodyPost_ret (by simp [results, Try.results49, go_sem]) rfl ⟨rfl, hb⟩
    · have h2 : 6 < b := by omega
      clear hb
      go_enter Try.func49, Try.ntmps49
      go_wp2_with (first
        | (go_at_call 47; refine (rCorner_any _ _ _ _ ha ha2).mono ?_; rintro e w1 ⟨rfl, hb⟩)
        | (go_at_call 38; refine (rsize_any _ _).mono ?_; rintro e w2 ⟨rfl, rfl⟩))
      exact bodyPost_ret (by simp [results, Try.results49, go_sem]) rfl ⟨rfl, hb⟩
  · rw [e1, e2, e3]; clear e1 e2 e3
    obtain ⟨hf, hg, ha3, hX, hY⟩ := corn_ok hc
    obtain ⟨x0, x1, y0, y1⟩ := corner_bd hf hg ha3
    obtain ⟨b1, b2⟩ := hb
    generalize cornerX f g a = X at *
    generalize cornerY g a = Y at *
    clear ha3 hg
    by_cases h4 : b ≤ 4
    · have hV : plcV f X Y b = (Y + (b - 1) / 2 * 8) * wideS f + X + (b - 1) % 2 * 8 := by unfold plcV; rw [if_pos h4]
      have hS : plcS f b = wideS f := by unfold plcS; rw [if_pos h4]
      rw [hV, hS]; clear hV hS
      rcases hf with rfl | rfl
      · have hw : wideS 0 = 176 := rfl
        have hh : highS 0 = 144 := rfl
        rw [hw] at x1; rw [hh] at y1; simp only [hw]
        go_enter Try.func49, Try.ntmps49
        go_wp2_with (first
          | (go_at_call 47; refine (rCorner_any _ _ _ _ ha ha2).mono ?_; rintro e w1 ⟨rfl, hb⟩)
          | (go_at_call 38; refine (rsize_any _ _).mono ?_; rintro e w2 ⟨rfl, rfl⟩))
        exact bodyPost_ret (by simp [results, Try.results49, go_sem]) rfl ⟨rfl, hb⟩
      · have hw : wideS 1 = 352 := rfl
        have hh : highS 1 = 288 := rfl
        rw [hw] at x1; rw [hh] at y1; simp only [hw]
        go_enter Try.func49, Try.ntmps49
        go_wp2_with (first
          | (go_at_call 47; refine (rCorner_any _ _ _ _ ha ha2).mono ?_; rintro e w1 ⟨rfl, hb⟩)
          | (go_at_call 38; refine (rsize_any _ _).mono ?_; rintro e w2 ⟨rfl, rfl⟩))
        exact bodyPost_ret (by simp [results, Try.results49, go_sem]) rfl ⟨rfl, hb⟩
    · have hV : plcV f X Y b = wideS f * highS f + (b - 5) * (wideS f * highS f / 4) + Y / 2 * (wideS f / 2) + X / 2 := by unfold plcV; rw [if_neg h4]
      have hS : plcS f b = wideS f / 2 := by unfold plcS; rw [if_neg h4]
      rw [hV, hS]; clear hV hS
      rcases hf with rfl | rfl
      · have hw : wideS 0 = 176 := rfl
        have hh : highS 0 = 144 := rfl
        rw [hw] at x1; rw [hh] at y1; simp only [hw, hh]
        go_enter Try.func49, Try.ntmps49
        go_wp2_with (first
          | (go_at_call 47; refine (rCorner_any _ _ _ _ ha ha2).mono ?_; rintro e w1 ⟨rfl, hb⟩)
          | (go_at_call 38; refine (rsize_any _ _).mono ?_; rintro e w2 ⟨rfl, rfl⟩))
        exact bodyPost_ret (by simp [results, Try.results49, go_sem]) rfl ⟨rfl, hb⟩
      · have hw : wideS 1 = 352 := rfl
        have hh : highS 1 = 288 := rfl
        rw [hw] at x1; rw [hh] at y1; simp only [hw, hh]
        go_enter Try.func49, Try.ntmps49
        go_wp2_with (first
          | (go_at_call 47; refine (rCorner_any _ _ _ _ ha ha2).mono ?_; rintro e w1 ⟨rfl, hb⟩)
          | (go_at_call 38; refine (rsize_any _ _).mono ?_; rintro e w2 ⟨rfl, rfl⟩))
        exact bodyPost_ret (by simp [results, Try.results49, go_sem]) rfl ⟨rfl, hb⟩
end Go.Proofs.Ytcieggaihelacaa
/- A region that draws its order of evaluation, inside a fence: operations that yield one value in every world of a class may be taken first; the others stand in a forced order. -/
set_option linter.unusedSimpArgs false
set_option linter.unusedVariables false
namespace Go.Proofs.Ytcieggaihelacaa
open Go.RowKit
section
variable {F : Fence} {n : Nat} {P : Program} {ops : Array Oper} {md : Region.Mode} {B : World → Prop} {Q : Act → World → Prop} {T : List Nat}

def noExit : Exit → Act → World → Prop := fun _ _ _ => False

theorem wpIn_weaken {o : Oper} {a : Act} {w : World} {K K' : Act → World → Prop} {Q' : Exit → Act → World → Prop} (h : ∀ a w, K a w → K' a w)
    (hh : o.wpIn F n P a w K noExit) : o.wpIn F n P a w K' Q' := by
  unfold Oper.wpIn at *
  refine ⟨hh.1, ?_⟩
  have hh := hh.2
  generalize (o.semAt F.round a.eval).run P w = r at *
  cases r with
  | ok x w' =>
    cases x <;> simp only [Oper.uponIn] at hh ⊢ <;>
      first
        | exact h _ _ hh
        | exact ⟨hh.1, CallsIn.mono hh.2 (fun e w'' he => by cases e <;> first | exact h _ _ he | exact he.elim | exact he.elim fun _ h => h.elim fun _ h => h.elim)⟩
        | exact ⟨hh.1, RowsIn.mono hh.2 (fun _ _ he => h _ _ he)⟩
        | exact ⟨hh.1, RoundIn.mono hh.2 (fun e w'' he => by cases e <;> first | exact h _ _ he | exact he.elim | exact he.elim fun _ h => h.elim fun _ h => h.elim)⟩
  | halt x w' => cases x <;> simp only [Oper.uponIn] at hh ⊢ <;> exact hh.elim

theorem wpOpIn_weaken {i : Nat} {a : Act} {w : World} {K K' : Act → World → Prop} {Q' : Exit → Act → World → Prop} (h : ∀ a w, K a w → K' a w)
    (hh : wpOpIn F n P ops noExit i K a w) : wpOpIn F n P ops Q' i K' a w := by
  unfold wpOpIn at *
  split
  · exact h _ _ (by simpa [*] using hh)
  · rename_i o ho
    simp only [ho] at hh
    split
    · rename_i hw; simp only [hw, if_true] at hh; exact wpIn_weaken h hh
    · rename_i hw; simp only [hw] at hh; exact ⟨hh.1, h _ _ hh.2⟩

def anyB (F : Fence) (n : Nat) (P : Program) (md : Region.Mode) (ops : Array Oper) (B : World → Prop) (T : List Nat) (Q : Act → World → Prop) : Nat → Array Bool → Act → World → Prop
  | 0, listed, a, w => Region.ready md ops listed = [] ∧ Q a w
  | f + 1, listed, a, w => (Region.ready md ops listed = [] → Q a w) ∧
    ∀ i ∈ Region.ready md ops listed, wpOpIn F n P ops noExit i (fun a' w' => (i ∉ T → B w') ∧ anyB F n P md ops B T Q f (listed.setIfInBounds i true) a' w') a w

theorem anyB_sound {Q' : Exit → Act → World → Prop} (hQ : ∀ a w, Q a w → Q' .normal a w) : ∀ (f : Nat) (listed : Array Bool) (a : Act) (w : World),
    anyB F n P md ops B T Q f listed a w → wpAnyIn F n P md ops Q' f listed a w
  | 0, _, _, _, h => ⟨h.1, hQ _ _ h.2⟩
  | f + 1, _, _, _, h => ⟨fun h0 => hQ _ _ (h.1 h0), fun i hi => wpOpIn_weaken (fun a' w' h' => anyB_sound hQ f _ a' w' h'.2) (h.2 i hi)⟩

/-- In every world of the class the operation yields v and leaves the world alone. -/
def QuietB (P : Program) (ops : Array Oper) (B : World → Prop) (o : Oper) (a : Act) (v : Value) : Prop :=
  (Region.wanted o (yielded ops a.tmps) = true ∧ ∀ w, B w → (execOp a.eval o).run P w = .ok (.value v) w) ∨ (Region.wanted o (yielded ops a.tmps) = false ∧ v = undef)

def plainB (ops : Array Oper) : Bool := ops.all fun o => match o.op with | .select .. => false | .defer .. => false | _ => true
theorem plainB_spec (h : plainB ops = true) (j : Nat) (o : Oper) (ho : ops[j]? = some o) : (∀ cs b, o.op ≠ .select cs b) ∧ (∀ c, o.op ≠ .defer c) := by
  have := Array.all_eq_true_iff_forall_mem.1 h o (Array.mem_of_getElem? ho)
  exact ⟨fun cs b e => by simp [e] at this, fun c e => by simp [e] at this⟩

theorem QuietB.op {i : Nat} {o : Oper} {v : Value} {a : Act} {w : World} (hF : ∀ f, F.fn f) (hi : ops[i]? = some o) (hd : ∀ c, o.op ≠ .defer c) (hy : QuietB P ops B o a v) (hw : B w)
    {K : Act → World → Prop} {Q' : Exit → Act → World → Prop} (h : K (a.put o.dst v) w) : wpOpIn F n P ops Q' i K a w := by
  unfold wpOpIn
  simp only [hi]
  rcases hy with ⟨h1, h2⟩ | ⟨h1, rfl⟩
  · simp only [h1, if_true, Oper.wpIn, Oper.semAt_plain F _ _ hd, h2 w hw, Oper.uponIn]; exact ⟨fun f _ => hF f, h⟩
  · simp only [h1, Bool.false_eq_true, if_false]; exact ⟨fun f _ => hF f, h⟩

theorem QuietB.put {o : Oper} {v u : Value} {a : Act} {d : Option Tmp} (hs : ∀ cs b, o.op ≠ .select cs b) (h : ∀ x, d = some x → x ∉ o.looksAt ops) (hy : QuietB P ops B o a v) : QuietB P ops B o (a.put d u) v := by
  unfold QuietB at *
  rw [execOp_put o hs a d u h, wanted_put o a d u h]
  exact hy

theorem wpOpIn_putB {j : Nat} {oi oj : Oper} {v : Value} (hF : ∀ f, F.fn f) (hj : ops[j]? = some oj) (hap : oi.apart ops oj = true)
    (hsi : ∀ cs b, oi.op ≠ .select cs b) (hsj : ∀ cs b, oj.op ≠ .select cs b) (hdj : ∀ c, oj.op ≠ .defer c) {K : Act → World → Prop} {a : Act} {w : World}
    (hy : QuietB P ops B oi a v) (h : wpOpIn F n P ops noExit j K (a.put oi.dst v) w) :
    wpOpIn F n P ops noExit j (fun a' w' => QuietB P ops B oi a' v ∧ K (a'.put oi.dst v) w') a w := by
  obtain ⟨h1, h2, h3⟩ := Oper.apart_spec hap
  have keep : ∀ u, QuietB P ops B oi (a.put oj.dst u) v := fun u => hy.put hsi h3
  unfold wpOpIn at *
  simp only [hj] at *
  rw [wanted_put oj a oi.dst v h1] at h
  split
  · rename_i hw
    simp only [hw, if_true] at h
    unfold Oper.wpIn at *
    refine ⟨fun f _ => hF f, ?_⟩
    have h := h.2
    rw [Oper.semAt_plain F _ _ hdj, execOp_put oj hsj a oi.dst v h1] at h
    rw [Oper.semAt_plain F _ _ hdj]
    generalize (execOp a.eval oj).run P w = r at *
    cases r with
    | ok x w' =>
      cases x <;> simp only [Oper.uponIn] at h ⊢
      case value u => exact ⟨keep u, by rw [← Act.put_comm a v u h2]; exact h⟩
      case skip => exact ⟨keep _, by rw [← Act.put_comm a v undef h2]; exact h⟩
      case defer d =>
        refine ⟨?_, ?_⟩
        · exact QuietB.put hsi h3 (show QuietB P ops B oi { a with defers := d :: a.defers } v from hy)
        · rw [← Act.put_comm _ v undef h2, ← Act.put_defers]
          exact h
      case enter f args =>
        refine ⟨h.1, CallsIn.mono h.2 fun e w'' he => ?_⟩
        cases e with
        | returned u => exact ⟨keep u, by rw [← Act.put_comm a v u h2]; exact he⟩
        | panicked c => exact he
        | outgrown => exact he
      case row row args => exact ⟨h.1, RowsIn.mono h.2 fun u w'' he => ⟨keep u, by rw [← Act.put_comm a v u h2]; exact he⟩⟩
      case round l f tmps assign body =>
        refine ⟨h.1, RoundIn.mono h.2 fun e w'' he => ?_⟩
        cases e with
        | returned u => exact ⟨keep u, by rw [← Act.put_comm a v u h2]; exact he⟩
        | panicked c => exact he
        | outgrown => exact he
    | halt x w' => cases x <;> simp only [Oper.uponIn] at h ⊢ <;> exact h.elim
  · rename_i hw
    simp only [hw] at h
    exact ⟨fun f _ => hF f, keep _, by rw [← Act.put_comm a v undef h2]; exact h.2⟩

/-- t stands behind i, by the edges that bind. -/
def waitsB (md : Region.Mode) (ops : Array Oper) : Nat → Nat → Nat → Bool
  | 0, _, _ => false
  | f + 1, t, i => match ops[t]? with
    | some o => o.after.any fun e => Region.binds md e && (e.on == i || waitsB md ops f e.on i)
    | none => false
def Closed (md : Region.Mode) (ops : Array Oper) (listed : Array Bool) : Prop :=
  ∀ j oj, ops[j]? = some oj → listed.getD j false = true → ∀ e ∈ oj.after, Region.binds md e = true → listed.getD e.on false = true
theorem waits_listed {listed : Array Bool} (hc : Closed md ops listed) {i : Nat} : ∀ (f t : Nat) (o : Oper), ops[t]? = some o → (∀ e ∈ o.after, Region.binds md e = true → listed.getD e.on false = true) → waitsB md ops f t i = true → listed.getD i false = true
  | 0, _, _, _, _, h => by simp [waitsB] at h
  | f + 1, t, o, ho, hall, h => by
    simp only [waitsB, ho] at h
    obtain ⟨e, he, hb⟩ := Array.any_eq_true'.1 h
    simp only [Bool.and_eq_true, Bool.or_eq_true, beq_iff_eq] at hb
    have hl := hall e he hb.1
    rcases hb.2 with h1 | h1
    · rw [← h1]; exact hl
    · cases ho' : ops[e.on]? with
      | none =>
        cases f with
        | zero => simp [waitsB] at h1
        | succ f => simp [waitsB, ho'] at h1
      | some o' => exact waits_listed hc f e.on o' ho' (fun e' he' hb' => hc e.on o' ho' hl e' he' hb') h1
theorem Closed.set {listed : Array Bool} {i : Nat} (hc : Closed md ops listed) (hi : i ∈ Region.ready md ops listed) : Closed md ops (listed.setIfInBounds i true) := by
  obtain ⟨_, oi, hoi, hall⟩ := mem_ready.1 hi
  intro j oj hj hl e he hb
  by_cases hij : i = j
  · subst hij
    have : oj = oi := Option.some.inj (hj.symm.trans hoi)
    subst this
    exact getD_set_true (hall e he hb)
  · rw [getD_set_ne false hij] at hl
    exact getD_set_true (hc j oj hj hl e he hb)
theorem getD_true_false {listed : Array Bool} {i : Nat} (h : listed.getD i true = false) : listed.getD i false = false := by
  rcases Nat.lt_or_ge i listed.size with h' | h'
  · simp [h'] at h ⊢; exact h
  · simp [Array.getElem?_eq_none h'] at h

theorem anyB_first {i : Nat} {oi : Oper} {v : Value} (hF : ∀ f, F.fn f) (hi : ops[i]? = some oi) (hpl : plainB ops = true) (g : Nat) (hT : ∀ t, t ∈ T → waitsB md ops g t i = true) :
    ∀ (f : Nat) (listed : Array Bool) (a : Act) (w : World), B w → Closed md ops listed →
      (∀ j oj, ops[j]? = some oj → j ≠ i → listed.getD j true = false → (∀ e ∈ oj.after, Region.binds md e = true → e.on ≠ i) → oi.apart ops oj = true) →
      i ∈ Region.ready md ops listed → QuietB P ops B oi a v →
      anyB F n P md ops B T Q f (listed.setIfInBounds i true) (a.put oi.dst v) w → anyB F n P md ops B T Q (f + 1) listed a w := by
  obtain ⟨hsi, hdi⟩ := plainB_spec hpl i oi hi
  intro f
  induction f with
  | zero =>
    intro listed a w hB _ _ hr hy H
    refine ⟨fun h => (by rw [h] at hr; cases hr), fun j hj => ?_⟩
    by_cases hji : j = i
    · subst hji; exact hy.op hF hi hdi hB ⟨fun _ => hB, H⟩
    · have := ready_mono hj hji
      rw [H.1] at this
      cases this
  | succ f ih =>
    intro listed a w hB hcl hfree hr hy H
    refine ⟨fun h => (by rw [h] at hr; cases hr), fun j hj => ?_⟩
    by_cases hji : j = i
    · subst hji; exact hy.op hF hi hdi hB ⟨fun _ => hB, H⟩
    · have h1 := H.2 j (ready_mono hj hji)
      obtain ⟨hjun, oj, hoj, hall⟩ := mem_ready.1 hj
      obtain ⟨hsj, hdj⟩ := plainB_spec hpl j oj hoj
      have hjT : j ∉ T := fun hm => by
        have := waits_listed hcl g j oj hoj hall (hT j hm)
        rw [getD_true_false (mem_ready.1 hr).1] at this
        cases this
      have hnot : ∀ e ∈ oj.after, Region.binds md e = true → e.on ≠ i := fun e he hb heq => by
        have h1 := hall e he hb
        have h0 := (mem_ready.1 hr).1
        rw [heq, getD_true_false h0] at h1
        cases h1
      have h2 := wpOpIn_putB hF hoj (hfree j oj hoj hji hjun hnot) hsi hsj hdj hy h1
      have hfree' : ∀ k ok, ops[k]? = some ok → k ≠ i → (listed.setIfInBounds j true).getD k true = false →
          (∀ e ∈ ok.after, Region.binds md e = true → e.on ≠ i) → oi.apart ops ok = true := fun k ok hk hki hun hno => by
        refine hfree k ok hk hki ?_ hno
        by_cases hjk : j = k
        · subst hjk; exact hjun
        · rw [getD_set_ne true hjk] at hun; exact hun
      refine wpOpIn_weaken (fun a' w' h3 => ⟨h3.2.1, ih (listed.setIfInBounds j true) a' w' (h3.2.1 hjT) (hcl.set hj) hfree' (ready_mono hr (Ne.symm hji)) h3.1 ?_⟩) h2
      rw [Array.setIfInBounds_comm _ _ hji]
      exact h3.2.2

/-- The walk: operations by number; true: taken first; false: it stands in a forced order. T: the last ones, behind which nothing more is asked of the world. -/
def wpMix (F : Fence) (n : Nat) (P : Program) (ops : Array Oper) (B : World → Prop) (T : List Nat) (Q : Act → World → Prop) : List (Nat × Bool) → Act → World → Prop
  | [], a, w => Q a w
  | (i, q) :: rest, a, w => ∃ o, ops[i]? = some o ∧
    if q then ∃ v, QuietB P ops B o a v ∧ wpMix F n P ops B T Q rest (a.put o.dst v) w
    else wpOpIn F n P ops noExit i (fun a' w' => (i ∉ T → B w') ∧ wpMix F n P ops B T Q rest a' w') a w

def mixFrom (md : Region.Mode) (ops : Array Oper) (T : List Nat) : List (Nat × Bool) → Array Bool → Bool
  | [], listed => (Region.ready md ops listed).isEmpty
  | (i, q) :: rest, listed => (if q then (Region.ready md ops listed).contains i && Region.free md ops listed i && T.all (fun t => waitsB md ops ops.size t i) else Region.ready md ops listed == [i] && (!T.contains i || !rest.any (·.2))) && mixFrom md ops T rest (listed.setIfInBounds i true)

theorem anyB_of_mix (hF : ∀ f, F.fn f) (hpl : plainB ops = true) : ∀ (l : List (Nat × Bool)) (listed : Array Bool) (a : Act) (w : World), (l.any (·.2) = true → B w) → Closed md ops listed → mixFrom md ops T l listed = true → wpMix F n P ops B T Q l a w →
    anyB F n P md ops B T Q l.length listed a w
  | [], _, _, _, _, _, hc, h => ⟨by simpa [mixFrom] using hc, h⟩
  | (i, true) :: rest, listed, a, w, hB, hcl, hc, ⟨o, ho, v, hq, h⟩ => by
    simp only [mixFrom, if_true, Bool.and_eq_true] at hc
    have hB' : B w := hB (by simp)
    have hr : i ∈ Region.ready md ops listed := by simpa using hc.1.1.1
    exact anyB_first hF ho hpl ops.size (fun t ht => List.all_eq_true.1 hc.1.2 t ht) rest.length listed a w hB' hcl (Region.free_spec ho hc.1.1.2) hr hq (anyB_of_mix hF hpl rest _ _ w (fun _ => hB') (hcl.set hr) hc.2 h)
  | (i, false) :: rest, listed, a, w, hB, hcl, hc, ⟨o, ho, h⟩ => by
    simp only [mixFrom, Bool.false_eq_true, if_false, Bool.and_eq_true, beq_iff_eq, Bool.or_eq_true, Bool.not_eq_true'] at hc
    refine ⟨fun h0 => (by rw [h0] at hc; cases hc.1.1), fun j hj => ?_⟩
    have hr : i ∈ Region.ready md ops listed := by rw [hc.1.1]; simp
    rw [hc.1.1] at hj
    obtain rfl : j = i := by simpa using hj
    simp only [Bool.false_eq_true, if_false] at h
    refine wpOpIn_weaken (fun a' w' h3 => ⟨h3.1, anyB_of_mix hF hpl rest _ a' w' (fun hq => h3.1 (fun hm => ?_)) (hcl.set hr) hc.2 h3.2⟩) h
    rcases hc.1.2 with h1 | h1
    · have : T.contains j = true := by simpa using hm
      rw [h1] at this; cases this
    · rw [hq] at h1; cases h1

theorem wpIn_region_mix {id : Nat} {l : List Oper} {Q' : Exit → Act → World → Prop} {a : Act} {w : World} (B : World → Prop) (T : List Nat) (pi : List (Nat × Bool)) (hF : ∀ f, F.fn f) (hm : P.follows .mixedOrders = true)
    (hpl : plainB l.toArray = true) (hlen : pi.length = l.length) (hc : mixFrom .any l.toArray T pi (Array.replicate l.length false) = true) (hB : B w.drew)
    (h : wpMix F n P l.toArray B T (fun a' w' => Q' .normal a' w') pi a w.drew) : (Code.region id l.toArray true).wpIn F n P Q' a w := by
  refine wpIn_region_any hm ?_
  have hcl : Closed .any l.toArray (Array.replicate l.length false) := fun j oj _ hl => by
    rcases Nat.lt_or_ge j l.length with h | h
    · simp [h] at hl
    · simp [h] at hl
  have := anyB_sound (Q' := Q') (fun _ _ h => h) _ _ _ _ (anyB_of_mix hF hpl pi (Array.replicate l.length false) a w.drew (fun _ => hB) hcl hc h)
  rw [hlen] at this
  exact this

/-- The same outside a fence. -/
theorem wp_region_mix {id : Nat} {l : List Oper} {Q' : Exit → Act → World → Prop} {a : Act} {w : World} (B : World → Prop) (T : List Nat) (pi : List (Nat × Bool)) (hm : P.follows .mixedOrders = true)
    (hpl : plainB l.toArray = true) (hlen : pi.length = l.length) (hc : mixFrom .any l.toArray T pi (Array.replicate l.length false) = true) (hB : B w.drew)
    (h : wpMix Fence.wide 0 P l.toArray B T (fun a' w' => Q' .normal a' w') pi a w.drew) : (Code.region id l.toArray true).wp P Q' a w :=
  wpIn_wide.1 (wpIn_region_mix B T pi (fun _ => trivial) hm hpl hlen hc hB h)

theorem mix_nil {a : Act} {w : World} (h : Q a w) : wpMix F n P ops B T Q [] a w := h
theorem mix_q {l : List Oper} {i : Nat} {rest : List (Nat × Bool)} {o : Oper} {v : Value} {a : Act} {w : World} (ho : l[i]? = some o) (hg : Region.wanted o (yielded l.toArray a.tmps) = true) (hq : ∀ w, B w → (execOp a.eval o).run P w = .ok (.value v) w)
    (h : wpMix F n P l.toArray B T Q rest (a.put o.dst v) w) : wpMix F n P l.toArray B T Q ((i, true) :: rest) a w := ⟨o, by simpa using ho, v, Or.inl ⟨hg, hq⟩, h⟩
theorem mix_qs {l : List Oper} {i : Nat} {rest : List (Nat × Bool)} {o : Oper} {a : Act} {w : World} (ho : l[i]? = some o) (hg : Region.wanted o (yielded l.toArray a.tmps) = false)
    (h : wpMix F n P l.toArray B T Q rest (a.put o.dst undef) w) : wpMix F n P l.toArray B T Q ((i, true) :: rest) a w := ⟨o, by simpa using ho, undef, Or.inr ⟨hg, rfl⟩, h⟩
theorem mix_e {l : List Oper} {i : Nat} {rest : List (Nat × Bool)} {o : Oper} {a : Act} {w : World} (ho : l[i]? = some o) (hg : Region.wanted o (yielded l.toArray a.tmps) = true)
    (h : o.wpIn F n P a w (fun a' w' => (i ∉ T → B w') ∧ wpMix F n P l.toArray B T Q rest a' w') noExit) : wpMix F n P l.toArray B T Q ((i, false) :: rest) a w :=
  have ho' : l.toArray[i]? = some o := by simpa using ho
  ⟨o, ho', by simp only [Bool.false_eq_true, if_false]; unfold wpOpIn; simp only [ho', hg, if_true]; exact h⟩
theorem mix_es {l : List Oper} {i : Nat} {rest : List (Nat × Bool)} {o : Oper} {a : Act} {w : World} (hF : ∀ f, F.fn f) (ho : l[i]? = some o) (hg : Region.wanted o (yielded l.toArray a.tmps) = false) (hB : B w)
    (h : wpMix F n P l.toArray B T Q rest (a.put o.dst undef) w) : wpMix F n P l.toArray B T Q ((i, false) :: rest) a w :=
  have ho' : l.toArray[i]? = some o := by simpa using ho
  ⟨o, ho', by simp only [Bool.false_eq_true, if_false]; unfold wpOpIn; simp only [ho', hg, Bool.false_eq_true, if_false]; exact ⟨fun f _ => hF f, fun _ => hB, h⟩⟩
end
end Go.Proofs.Ytcieggaihelacaa
