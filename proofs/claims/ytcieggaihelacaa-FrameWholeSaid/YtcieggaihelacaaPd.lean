/- The paint layer's rows: where a spot's picture is refused, the iterator over a block's rows. -/
import Derived.Test.YtcieggaihelacaaPc
import Derived.Test.YtcieggaihelacaaMoe
set_option linter.unusedSimpArgs false
set_option linter.unusedVariables false
namespace Go.Proofs.Ytcieggaihelacaa
open Go.RowKit Go.Shelf
set_option maxRecDepth 100000
attribute [local go_sem] Oper.semAt_some
theorem pcorner_any (f g a : Int) (w : World) (ha : -9223372036854775808 ≤ a) (ha2 : a ≤ 9223372036854775807) :
    Calls Try.prog 89 #[.agg #[.int .i64 f, .int .i64 g, .int .i64 a]] w fun e w' => e = .returned (.tuple #[.int .i64 (if cornE f g a = 0 then bytesS f else 0), .int .i64 (cornE f g a)]) ∧ Below w.heap.size w w' := by
  have hB := (Below.refl w.heap.size w).alloc (Nat.le_refl _) (Obj.cells #[.int .i64 f, .int .i64 g, .int .i64 a] 23)
  have hL := (Lies.nil w).alloc (Obj.cells #[.int .i64 f, .int .i64 g, .int .i64 a] 23)
  have HB := Lib.hid hB
  have HL := Lib.hid hL
  clear hB hL
  by_cases hc : cornE f g a = 0
  · have hf := (corn_ok hc).1
    have he : fmtE f = 0 := by rcases hf with rfl | rfl <;> rfl
    rw [if_pos hc, hc]
    have HC := Lib.hid hc
    have HE := Lib.hid he
    clear hc he
    go_enter Try.func89, Try.ntmps89
    go_wp2_with (first
      | (go_at_call 46; refine (Corner_any _ _ _ _ ha ha2).mono ?_; rw [HC.out]; rintro e w1 ⟨rfl, hb1⟩; have HB1 := Lib.hid (below_nxt HB.out hb1); have k0 := (HL.out.next hb1).head; have c0 := blk_cell k0 0; have c1 := blk_cell k0 1; have c2 := blk_cell k0 2; simp only [List.getElem?_toArray, List.getElem?_cons_zero, List.getElem?_cons_succ] at c0 c1 c2; clear k0 hb1)
      | (go_at_call 37; refine (size_any _ _).mono ?_; rw [HE.out]; rintro e w' ⟨rfl, rfl⟩))
    go_ret2
    exact ⟨rfl, HB1.out⟩
  · have ht : (cornE f g a != 0) = true := by simpa using hc
    rw [if_neg hc]
    clear hc
    go_enter Try.func89, Try.ntmps89
    go_wp2_with (first
      | (go_at_call 46; refine (Corner_any _ _ _ _ ha ha2).mono ?_; rintro e w1 ⟨rfl, hb1⟩; have HB1 := Lib.hid (below_nxt HB.out hb1); clear hb1))
    go_ret2
    exact ⟨rfl, HB1.out⟩
theorem prows_any (va : Option Addr) (n c : Nat) (a s : Int) (w : World) :
    Calls Try.prog 90 #[.slice va n c, .int .i64 a, .int .i64 s] w fun e w' => e = .returned (.func (.func 101) #[] #[.pointer (some ⟨w.heap.size, 0, none⟩), .pointer (some ⟨w.heap.size + 1, 0, none⟩), .pointer (some ⟨w.heap.size + 1 + 1, 0, none⟩)]) ∧ w' = ((w.alloc (.cells #[.slice va n c] 24)).alloc (.cells #[.int .i64 a] 3)).alloc (.cells #[.int .i64 s] 3) := by
  go_enter Try.func90, Try.ntmps90
  go_wp2
  go_ret
  exact ⟨rfl, rfl⟩
/-- The row k of a block: its number, its eight places. -/
def prowV (gb ob c : Nat) (a s : Int) (k : Nat) : Array Value := #[.int .i64 k, .slice (some ⟨gb, ob + (a + (k : Int) * s).toNat, none⟩) 8 (c - (a + (k : Int) * s).toNat)]
def prowA (gb ob c : Nat) (a s : Int) : List (Array Value) := (List.range 8).map (prowV gb ob c a s)
theorem prowA_at (gb ob c : Nat) (a s : Int) (k : Nat) (h : k < 8) : (prowA gb ob c a s)[k]? = some (prowV gb ob c a s k) := by
  unfold prowA; rw [List.getElem?_map, List.getElem?_range h]; rfl
theorem prowA_len (gb ob c : Nat) (a s : Int) : (prowA gb ob c a s).length = 8 := by unfold prowA; simp
theorem prowA_inv {gb ob c : Nat} {a s : Int} {k : Nat} {x : Array Value} (h : (prowA gb ob c a s)[k]? = some x) : k < 8 ∧ x = prowV gb ob c a s k := by
  rcases Nat.lt_or_ge k 8 with h' | h'
  · exact ⟨h', Option.some.inj (h.symm.trans (prowA_at gb ob c a s k h'))⟩
  · rw [List.getElem?_eq_none (by rw [prowA_len]; omega)] at h; cases h
set_option maxHeartbeats 2000000 in
theorem prow_seq (S T : Nat → Prop) (gb ob n c bb ba bs : Nat) (a s : Int) (w : World) (ha0 : 0 ≤ a) (ha1 : a ≤ 1000000) (hs0 : 0 ≤ s) (hs1 : s ≤ 1000) (hfit : a + 7 * s + 8 ≤ n) (hnc : n ≤ c)
    (kb : w.heap[bb]? = some (.cells #[.slice (some ⟨gb, ob, none⟩) n c] 24 (0, 0))) (ka : w.heap[ba]? = some (.cells #[.int .i64 a] 3 (0, 0))) (ks : w.heap[bs]? = some (.cells #[.int .i64 s] 3 (0, 0)))
    (sb : ¬ S bb) (sa : ¬ S ba) (ss : ¬ S bs) (hT : ∀ k, T k → k < w.heap.size) :
    SeqX Try.prog 101 #[.pointer (some ⟨bb, 0, none⟩), .pointer (some ⟨ba, 0, none⟩), .pointer (some ⟨bs, 0, none⟩)] (prowA gb ob c a s) S T w := by
  intro l J Jx W hW hJ hJx hY h0
  have kb' := blk_kept kb (below_grown hW none) (by simp)
  have ka' := blk_kept ka (below_grown hW none) (by simp)
  have ks' := blk_kept ks (below_grown hW none) (by simp)
  have hwf : ∀ f, Fence.wide.fn f := fun _ => trivial
  have hwd : Fence.wide.depth = none := rfl
  have hY' := Lib.hid hY
  have KBB := Lib.hid kb'
  have KA := Lib.hid ka'
  have KS := Lib.hid ks'
  clear hY kb ka ks kb' ka' ks'
  (refine callsIn_of_wp Try.func101 rfl trivial ?_ rfl; simp only [Try.ntmps101, List.size_toArray, List.length_cons, List.length_nil, Nat.reduceAdd, Nat.reduceSub, Array.replicate_succ, Array.replicate_zero, List.push_toArray, List.append_toArray, List.nil_append, List.cons_append])
  gi_wp2
  gi_loopw [5, 6] (fun _ i wr => ∃ k : Nat, k ≤ 8 ∧ i = .int .i64 k ∧ J k wr ∧ wr.heap[bb]? = some (.cells #[.slice (some ⟨gb, ob, none⟩) n c] 24 (0, 0)) ∧ wr.heap[ba]? = some (.cells #[.int .i64 a] 3 (0, 0)) ∧ wr.heap[bs]? = some (.cells #[.int .i64 s] 3 (0, 0))) (fun _ i _ => 10 - (intOf i).toNat)
  case atStart => exact ⟨0, by omega, rfl, h0, KBB.out, KA.out, KS.out⟩
  case round =>
    obtain ⟨k, hk, rfl, hJk, kb, ka, ks⟩ := hrel
    have HJ := Lib.hid hJk
    have HB := Lib.hid kb
    have HA := Lib.hid ka
    have HS := Lib.hid ks
    clear h0 hJk KBB KA KS
    by_cases hlt : k < 8
    · have hkl : (k : Int) < 8 := by omega
      have cb := blk_cell kb 0
      have ca := blk_cell ka 0
      have cs := blk_cell ks 0
      simp only [List.getElem?_toArray, List.getElem?_cons_zero] at cb ca cs
      clear kb ka ks
      have hm0 : 0 ≤ (k : Int) * s := Int.mul_nonneg (by omega) hs0
      have hm1 : (k : Int) * s ≤ 7 * s := Int.mul_le_mul_of_nonneg_right (by omega) hs0
      obtain ⟨fn, tmps, assign, body, hy, hR⟩ := hY'.out _ _ wr (prowA_at gb ob c a s k hlt) HJ.out
      unfold prowV at hy
      obtain ⟨q, hq⟩ : ∃ q : Nat, a + (k : Int) * s = q := ⟨(a + (k : Int) * s).toNat, by omega⟩
      rw [hq, Int.toNat_natCast] at hy
      have hqn : q + 8 ≤ n := by omega
      have hqc : q < c := by omega
      have HQ := Lib.hid hq
      have hm2 : (k : Int) * s ≤ 7000 := by omega
      clear hm1
      gi_wp2
      refine hR.mono ?_
      rintro e W3 ⟨hk3, ⟨rfl, hJ3⟩ | ⟨rfl, hJx3⟩⟩
      · gi_wp2
        go_roundw
        case rel => exact ⟨k + 1, by omega, by go_num, hJ3, hk3.kc.cells _ _ HB.out rfl sb, hk3.kc.cells _ _ HA.out rfl sa, hk3.kc.cells _ _ HS.out rfl ss⟩
        case measure => simp [intOf]; omega
      · gi_wp2
        exact bodyPost_ret (results_none rfl _ _ _) rfl ⟨⟨_, rfl⟩, .inr ⟨k + 1, by omega, by rw [prowA_len]; omega, hJx3⟩⟩
    · have e : k = 8 := by omega
      subst e
      gi_wp2
      go_end0
      exact ⟨⟨_, rfl⟩, .inl (by rw [prowA_len]; exact HJ.out)⟩
end Go.Proofs.Ytcieggaihelacaa
