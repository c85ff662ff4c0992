/- Marks of ranges over functions that gather in a loop; the program's Copy. -/
import Derived.Test.YtcieggaihelacaaPj
set_option linter.unusedSimpArgs false
set_option linter.unusedVariables false
namespace Go.Proofs.Ytcieggaihelacaa
open Go.RowKit Go.Shelf
set_option maxRecDepth 100000
attribute [local go_sem] Oper.semAt_some
def mk1 (d : Nat) : Deferred := { target := .collected d, args := #[] }
/-- Blocks that hold no deferred call, each once. -/
def Olds (lo : Nat) (ds : List Nat) (W : World) : Prop := ds.Nodup ∧ ∀ d ∈ ds, lo ≤ d ∧ W.heap[d]? = some (.deferred (some []))
theorem Olds.kept {lo : Nat} {ds : List Nat} {W W' : World} {row : Option Nat} (h : Olds lo ds W) (hg : W.grownBy W' row) (hr : ∀ d ∈ ds, some d ≠ row) : Olds lo ds W' := ⟨h.1, fun d hd => ⟨(h.2 d hd).1, blk_kept (h.2 d hd).2 hg (hr d hd)⟩⟩
theorem Olds.below {lo : Nat} {ds : List Nat} {W W' : World} (h : Olds lo ds W) (hb : Below W.heap.size W W') : Olds lo ds W' := h.kept (below_grown hb none) (fun _ _ => by simp)
theorem Olds.lt {lo : Nat} {ds : List Nat} {W : World} (h : Olds lo ds W) : ∀ d ∈ ds, d < W.heap.size := fun d hd => blk_lt (h.2 d hd).2
theorem Olds.ab {lo B : Nat} {T : Nat → Prop} {ds : List Nat} (hB : ∀ d ∈ ds, d < B) (hT : ∀ k, ¬ T k) : Ab B T (fun _ W => Olds lo ds W) := fun k W W' row hj hg hr =>
  hj.kept hg (fun d hd e => by
    rcases hr d e.symm with h | ⟨h, _⟩
    · exact hT d h
    · have := hB d hd; omega)
theorem leaves_marks {F : Fence} {n : Nat} {P : Program} {fn : Func} {tmps : Array Value} {R : Ending → World → Prop} {w0 : World} {gb : Option Nat} : ∀ {ds : List Nat} {w : World}, Olds w0.heap.size ds w → w0.grownBy w gb → (∀ d ∈ ds, some d ≠ gb) →
    (∀ w', w0.grownBy w' gb → (∀ k, k ∉ ds → w'.heap[k]? = w.heap[k]?) → LeavesIn F n P fn tmps R [] .returning w') → LeavesInM F n P fn tmps R (ds.map mk1) .returning w
  | [], w, _, hg, _, h => h w hg (fun _ _ => rfl)
  | d :: ds, w, ho, hg, hgb, h => by
    obtain ⟨nd, ho⟩ := ho
    rw [List.nodup_cons] at nd
    obtain ⟨h1, h2⟩ := ho d (by simp)
    refine ⟨by simp, .inl ⟨d, _, rfl, run_takeDeferred h2, ?_⟩⟩
    have hp := grownBy_putObj' w d (.deferred none)
    refine leaves_marks ⟨nd.2, fun j hj => ⟨(ho j (by simp [hj])).1, blk_kept (ho j (by simp [hj])).2 hp (fun e => by cases e; exact nd.1 hj)⟩⟩
      ⟨hp.os.trans hg.os, hp.tape.trans hg.tape, hp.output.trans hg.output, Nat.le_trans hg.size hp.size, fun k hk hne => (hp.block k (Nat.lt_of_lt_of_le hk hg.size) (fun e => by cases e; omega)).trans (hg.block k hk hne)⟩ (fun j hj => hgb j (by simp [hj])) (fun w' hw' hk' => h w' hw' (fun k hk => ?_))
    simp only [List.mem_cons, not_or] at hk
    rw [hk' k hk.2]
    exact World.putObj_heap_other hk.1
theorem arr72 (A : Array Value) (h : A.size = 72) : ∃ u : Nat → Value, A = #[u 0, u 1, u 2, u 3, u 4, u 5, u 6, u 7, u 8, u 9, u 10, u 11, u 12, u 13, u 14, u 15, u 16, u 17, u 18, u 19, u 20, u 21, u 22, u 23, u 24, u 25, u 26, u 27, u 28, u 29, u 30, u 31, u 32, u 33, u 34, u 35, u 36, u 37, u 38, u 39, u 40, u 41, u 42, u 43, u 44, u 45, u 46, u 47, u 48, u 49, u 50, u 51, u 52, u 53, u 54, u 55, u 56, u 57, u 58, u 59, u 60, u 61, u 62, u 63, u 64, u 65, u 66, u 67, u 68, u 69, u 70, u 71] := by
  obtain ⟨l⟩ := A
  refine ⟨fun i => l[i]?.getD undef, ?_⟩
  have hl : l.length = 72 := h
  congr 1
  apply List.ext_getElem?
  intro i
  by_cases hi : i < 72
  · have h2 := List.getElem?_eq_getElem (l := l) (i := i) (by omega)
    rw [h2]
    iterate 72 (rcases i with _ | i; · simp [h2])
    omega
  · rw [List.getElem?_eq_none (by omega), List.getElem?_eq_none (by simp; omega)]
end Go.Proofs.Ytcieggaihelacaa
