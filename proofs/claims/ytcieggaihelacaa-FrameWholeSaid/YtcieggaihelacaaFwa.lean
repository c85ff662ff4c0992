/- Layer 13's FrameWhole: a block of bools; marks, walked; every sample lies in one place of one block only. -/
import Derived.Test.YtcieggaihelacaaPu
import Derived.Test.YtcieggaihelacaaFro
set_option linter.unusedSimpArgs false
set_option linter.unusedVariables false
namespace Go.Proofs.Ytcieggaihelacaa
open Go.RowKit
set_option maxRecDepth 100000
def PicB (w : World) (g : Nat) (bs : List Bool) : Prop := w.heap[g]? = some (.cells (bs.map Value.bool).toArray 4 (0, 0))
theorem PicB.cell {w : World} {g : Nat} {bs : List Bool} (h : PicB w g bs) {i : Nat} (hi : i < bs.length) : w.cell? ⟨g, i, none⟩ = some (.bool (bs[i]?.getD false)) := by
  rw [blk_cell h, List.getElem?_toArray, List.getElem?_map]
  simp [hi]
theorem PicB.free {w : World} {g : Nat} {bs : List Bool} (h : PicB w g bs) (i : Nat) : w.frozen? ⟨g, i, none⟩ = false := blk_free h i
theorem PicB.set {w : World} {g : Nat} {bs : List Bool} (h : PicB w g bs) (i : Nat) (y : Bool) : PicB (w.setCell ⟨g, i, none⟩ (.bool y)) g (bs.set i y) := by
  have := blk_set h i (.bool y)
  unfold PicB
  rw [this, List.setIfInBounds_toArray, List.map_set]
theorem PicB.below {w w' : World} {g : Nat} {bs : List Bool} (h : PicB w g bs) (hb : Below w.heap.size w w') : PicB w' g bs := blk_kept h (below_grown hb none) (by simp)
/-- The first k places are marked. -/
def mark (q : Nat → Nat) : Nat → List Bool → List Bool
  | 0, bs => bs
  | k + 1, bs => (mark q k bs).set (q k) true
theorem mark_len (q : Nat → Nat) (k : Nat) (bs : List Bool) : (mark q k bs).length = bs.length := by
  induction k with
  | zero => rfl
  | succ k ih => unfold mark; rw [List.length_set, ih]
theorem mark_hit {q : Nat → Nat} {bs : List Bool} {m : Nat} : ∀ (k : Nat), (∃ i, i < k ∧ q i = m) → m < bs.length → (mark q k bs)[m]?.getD false = true
  | 0, h, _ => by obtain ⟨i, hi, _⟩ := h; omega
  | k + 1, h, hm => by
    unfold mark
    by_cases e : q k = m
    · subst e; rw [List.getElem?_set_self (by rw [mark_len]; exact hm)]; rfl
    · rw [List.getElem?_set_ne e]
      obtain ⟨i, hi, hq⟩ := h
      refine mark_hit k ⟨i, ?_, hq⟩ hm
      have : i ≠ k := fun e' => e (by rw [← e']; exact hq)
      omega
theorem mark_miss {q : Nat → Nat} {bs : List Bool} {m : Nat} : ∀ (k : Nat), (∀ i, i < k → q i ≠ m) → (mark q k bs)[m]?.getD false = bs[m]?.getD false
  | 0, _ => rfl
  | k + 1, h => by
    unfold mark
    rw [List.getElem?_set_ne (h k (by omega)), mark_miss k (fun i hi => h i (by omega))]
set_option maxHeartbeats 4000000 in
theorem marks_any (V S : Int) (gb n : Nat) (q : Nat → Nat) (bs : List Bool) (w : World) (hp : PicB w gb bs) (hl : bs.length = n) (hn : n ≤ 1000000) (hS : S = 88 ∨ S = 176 ∨ S = 352) (hV : 0 ≤ V ∧ V ≤ 1000000)
    (hq : ∀ i : Nat, i < 64 → (q i : Int) = V + (i : Int) / 8 * S + (i : Int) % 8 ∧ q i < n) (hinj : ∀ i j, i < 64 → j < 64 → q i = q j → i = j) (hfree : ∀ i, i < 64 → bs[q i]?.getD false = false) :
    Calls Try.prog 54 #[.slice (some ⟨gb, 0, none⟩) n n, .int .i64 V, .int .i64 S] w fun e w' => e = .returned (.bool true) ∧ PicB w' gb (mark q 64 bs) ∧ w.grownBy w' (some gb) := by
  have HL := Lib.hid hl
  have HP := Lib.hid hp
  have HI := Lib.hid hinj
  have HR := Lib.hid hfree
  clear hl hp hinj hfree
  rcases hS with rfl | rfl | rfl
  all_goals
    have HQ := Lib.hid hq
    clear hq
    go_enter Try.func54, Try.ntmps54
    go_wp2
    go_loopw [7, 8] (fun i _ wr => ∃ k : Nat, k ≤ 64 ∧ i = .int .i64 k ∧ PicB wr gb (mark q k bs) ∧ w.grownBy wr (some gb)) (fun i _ _ => 70 - (intOf i).toNat)
    case atStart => exact ⟨0, by omega, rfl, HP.out, World.grownBy.refl _ _⟩
    case round =>
      obtain ⟨k, hk, rfl, hpb, hg⟩ := hrel
      by_cases hlt : k < 64
      · have hlt' : (k : Int) < 64 := by omega
        obtain ⟨hqk, hqn⟩ := HQ.out k hlt
        obtain ⟨K, hK⟩ : ∃ K, q k = K := ⟨_, rfl⟩
        rw [hK] at hqk hqn
        have ck := hpb.cell (i := K) (by rw [mark_len, HL.out]; exact hqn)
        rw [mark_miss k (fun i hi e => by have := HI.out i k (by omega) hlt (by rw [e, hK]); omega), ← hK, HR.out k hlt, hK] at ck
        have fk := hpb.free K
        have hnx := hpb.set K true
        have HNX : Hid (PicB (wr.setCell ⟨gb, K, none⟩ (.bool true)) gb (mark q (k + 1) bs)) := by rw [← hK] at hnx ⊢; exact hnx
        have HG := Lib.hid (hg.trans (grown_set wr ⟨gb, K, none⟩ (.bool true)))
        have hv := hqk.symm
        have hK0 : ¬ (K : Int) < 0 := by omega
        have hKn : ¬ (n : Int) ≤ (K : Int) := by omega
        have hKn' : (K : Int) < (n : Int) := by omega
        have e1 : IntKind.i64.wrap ((k : Int) / 8 * 88) = (k : Int) / 8 * 88 := w64 (by omega) (by omega)
        have e2 : IntKind.i64.wrap ((k : Int) / 8 * 176) = (k : Int) / 8 * 176 := w64 (by omega) (by omega)
        have e3 : IntKind.i64.wrap ((k : Int) / 8 * 352) = (k : Int) / 8 * 352 := w64 (by omega) (by omega)
        clear hnx hpb hg hK hqk
        go_wp2
        go_roundw
        case rel => exact ⟨k + 1, by omega, by go_num, HNX.out, HG.out⟩
        case measure => simp [intOf]; omega
      · have e : k = 64 := by omega
        subst e
        go_wp2
        go_ret
        exact ⟨rfl, hpb, hg⟩
end Go.Proofs.Ytcieggaihelacaa
