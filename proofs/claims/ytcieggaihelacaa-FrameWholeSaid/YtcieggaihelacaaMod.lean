/- What is fetched: the plain functions; a part of a slice; the bounds. -/
import Derived.Test.YtcieggaihelacaaMoc
set_option linter.unusedSimpArgs false
set_option linter.unusedVariables false
namespace Go.Proofs.Ytcieggaihelacaa
open Go.RowKit
def sxS (b x : Int) : Int := if 4 < b then halfS x else x
def fetI (f g a b x y : Int) (k : Nat) : Int := plcV f (cornerX f g a) (cornerY g a) b + ((k : Int) / 8 + sxS b y) * plcS f b + (k : Int) % 8 + sxS b x
def fetE (f g a : Int) (n : Nat) (b x y : Int) : Int := if cornE f g a = 0 then (if (n : Int) = bytesS f then (if 1 ≤ b ∧ b ≤ 6 then fitsE f g a x y else 3) else 2) else cornE f g a
def fetL (f g a : Int) (xs : List Int) (b x y : Int) : List Int := if fetE f g a xs.length b x y = 0 then (List.range 64).map (fun k => xs[(fetI f g a b x y k).toNat]?.getD 0) else []
theorem fet_cases (f g a : Int) (xs : List Int) (b x y : Int) :
    (cornE f g a ≠ 0 ∧ fetE f g a xs.length b x y = cornE f g a ∧ fetL f g a xs b x y = []) ∨
    (cornE f g a = 0 ∧ (xs.length : Int) ≠ bytesS f ∧ fetE f g a xs.length b x y = 2 ∧ fetL f g a xs b x y = []) ∨
    (cornE f g a = 0 ∧ (xs.length : Int) = bytesS f ∧ ¬ (1 ≤ b ∧ b ≤ 6) ∧ fetE f g a xs.length b x y = 3 ∧ fetL f g a xs b x y = []) ∨
    (cornE f g a = 0 ∧ (xs.length : Int) = bytesS f ∧ (1 ≤ b ∧ b ≤ 6) ∧ fitsE f g a x y ≠ 0 ∧ fetE f g a xs.length b x y = fitsE f g a x y ∧ fetL f g a xs b x y = []) ∨
    (cornE f g a = 0 ∧ (xs.length : Int) = bytesS f ∧ (1 ≤ b ∧ b ≤ 6) ∧ fitsE f g a x y = 0 ∧ fetE f g a xs.length b x y = 0 ∧ fetL f g a xs b x y = (List.range 64).map (fun k => xs[(fetI f g a b x y k).toNat]?.getD 0)) := by
  unfold fetL
  by_cases h1 : cornE f g a = 0
  · by_cases h2 : (xs.length : Int) = bytesS f
    · by_cases h3 : 1 ≤ b ∧ b ≤ 6
      · have e : fetE f g a xs.length b x y = fitsE f g a x y := by unfold fetE; rw [if_pos h1, if_pos h2, if_pos h3]
        by_cases h4 : fitsE f g a x y = 0
        · exact .inr (.inr (.inr (.inr ⟨h1, h2, h3, h4, by rw [e, h4], by rw [e, if_pos h4]⟩)))
        · exact .inr (.inr (.inr (.inl ⟨h1, h2, h3, h4, e, by rw [e, if_neg h4]⟩)))
      · have e : fetE f g a xs.length b x y = 3 := by unfold fetE; rw [if_pos h1, if_pos h2, if_neg h3]
        exact .inr (.inr (.inl ⟨h1, h2, h3, e, by rw [e]; rfl⟩))
    · have e : fetE f g a xs.length b x y = 2 := by unfold fetE; rw [if_pos h1, if_neg h2]
      exact .inr (.inl ⟨h1, h2, e, by rw [e]; rfl⟩)
  · have e : fetE f g a xs.length b x y = cornE f g a := by unfold fetE; rw [if_neg h1]
    exact .inl ⟨h1, e, by rw [e, if_neg h1]⟩
theorem Rd.sub {k : IntKind} {w : World} {b off cap : Nat} {xs : List Int} (h : Rd k w (.slice (some ⟨b, off, none⟩) xs.length cap) xs) (lo m cap' : Nat) (hm : lo + m ≤ xs.length) (hc : m ≤ cap') : Rd k w (.slice (some ⟨b, off + lo, none⟩) m cap') ((xs.drop lo).take m) := by
  have hl := h.len
  rcases h with ⟨h, _⟩ | ⟨b', off', cap'', h, h1, h2, _, h4⟩
  · cases h
  · cases h
    have e : ((xs.drop lo).take m).length = m := by rw [List.length_take, List.length_drop]; omega
    refine Or.inr ⟨b, off + lo, cap', by rw [e], h1, by omega, by omega, fun i hi => ?_⟩
    rw [e] at hi
    rw [Nat.add_assoc, h4 (lo + i) (by omega), List.getElem?_take, if_pos hi, List.getElem?_drop]
theorem sub_at (xs : List Int) (lo m i : Nat) (hi : i < m) : ((xs.drop lo).take m)[i]?.getD 0 = xs[lo + i]?.getD 0 := by rw [List.getElem?_take, if_pos hi, List.getElem?_drop]
/-- The rows of cells that a step wrote to, where each of them was one. -/
theorem KB.row {S : Nat → Prop} {B : Nat} {W W' : World} {row : Option Nat} (hg : W.grownBy W' row) (hr : ∀ k, row = some k → S k ∧ ∃ o : Obj, W.heap[k]? = some o ∧ o.isCells = true) : KB S B W W' :=
  ⟨KC.grown hg (fun k e => (hr k e).1), ⟨hg.size, fun i o _ hi ho => (hg.block i (blk_lt hi) (fun e => by
    obtain ⟨_, o', h1, h2⟩ := hr i e.symm
    rw [hi] at h1; cases h1; rw [ho] at h2; cases h2)).trans hi⟩⟩
theorem owns_cells {w : World} {base n size g : Nat} {e : TypeId} {v : Value} {xs : List Value} (h : w.ownsRow base e size v n xs) (hg : v.ownBlock = some g) : ∃ o : Obj, w.heap[g]? = some o ∧ o.isCells = true := by
  rcases h.2 with ⟨rfl, _⟩ | ⟨g', cap, cur, rfl, _, hh, _⟩
  · cases hg
  · simp only [Value.ownBlock] at hg
    cases hg
    exact ⟨_, hh, rfl⟩
theorem Ab.owns {B base size : Nat} {T : Nat → Prop} {e : TypeId} {v : Value} (n : Nat → Nat) (xs : Nat → List Value) (hT : ∀ k, ¬ T k) : Ab B T (fun k W => W.ownsRow base e size v (n k) (xs k)) := fun k W W' row hj hg hr =>
  hj.kept hg (by
    by_cases hn : v.ownBlock = none
    · exact .inl hn
    · obtain ⟨b, hb⟩ := Option.ne_none_iff_exists'.1 hn
      refine .inr (fun e' => ?_)
      rcases hr b (e'.symm.trans hb) with h | ⟨_, o, h1, h2⟩
      · exact hT b h
      · obtain ⟨o', h3, h4⟩ := owns_cells hj hb
        rw [h1] at h3; cases h3; rw [h2] at h4; cases h4)
end Go.Proofs.Ytcieggaihelacaa
