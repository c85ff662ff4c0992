/- Layer 13's statements, walked: FramePlaces, FrameTells, FrameKnown. -/
import Derived.Test.YtcieggaihelacaaFrm
set_option linter.unusedSimpArgs false
set_option linter.unusedVariables false
namespace Go.Proofs.Ytcieggaihelacaa
open Go.RowKit

theorem framePlaces_any (f g a b : Int) (w : World) (ha : -9223372036854775808 ≤ a) (ha2 : a ≤ 9223372036854775807) :
    Calls Try.prog 9 #[.int .i64 f, .int .i64 g, .int .i64 a, .int .i64 b] w fun e w' => e = .returned (.bool true) ∧ Below w.heap.size w w' := by
  go_enter Try.func9, Try.ntmps9
  go_wp2_with (first
    | (go_at_call 46; refine (Corner_any _ _ _ _ ha ha2).mono ?_; rintro e w1 ⟨rfl, h1⟩)
    | (go_at_call 47; refine (rCorner_any _ _ _ _ ha ha2).mono ?_; rintro e w2 ⟨rfl, h2⟩)
    | (go_at_call 48; refine (place_any _ _ _ _ _ ha ha2).mono ?_; rintro e w3 ⟨rfl, h3⟩)
    | (go_at_call 49; refine (rPlace_any _ _ _ _ _ ha ha2).mono ?_; rintro e w4 ⟨rfl, h4⟩)
    | (go_at_call 45; refine (awake13_any _).mono ?_; rintro e w5 ⟨rfl, h5⟩))
  go_ret
  exact ⟨rfl, below_next (below_next (below_next (below_next h1 h2) h3) h4) h5⟩

theorem Rd.drewN {k : IntKind} {w : World} {v : Value} {xs : List Int} (h : Rd k w v xs) (n : Nat) : Rd k (w.drewN n) v xs := h.kept (Nat.le_refl _) (fun _ _ => rfl)
theorem same_true (v u : Value) (xs : List Int) (w : World) (h : Rd .i64 w v xs) (g : Rd .i64 w u xs) :
    Calls Try.prog 43 #[v, u] w fun e w' => e = .returned (.bool true) ∧ ∃ n, w' = w.drewN n :=
  (sameInts_any v u xs xs w h g).mono fun e w' ⟨h1, h2⟩ => ⟨by rw [h1, decide_eq_true rfl], h2⟩
theorem below_drewN {B : Nat} {w v : World} (h : Below B w v) (n : Nat) : Below B w (v.drewN n) := ⟨h.os, h.tape, h.output, h.size, h.block⟩

set_option maxRecDepth 100000 in
set_option maxHeartbeats 4000000 in
theorem frameTells_any (f g : Int) (w : World) :
    Calls Try.prog 8 #[.int .i64 f, .int .i64 g] w fun e w' => e = .returned (.bool true) ∧ Below w.heap.size w w' := by
  have hgl := gs_len f
  have hmx : (groupsS f).length ≤ 140737488351232 := by omega
  have hse : ((groupsS f).map (Value.int .i64)).length = (groupsS f).length := List.length_map _
  obtain ⟨gs, hgs⟩ : ∃ gs, groupsS f = gs := ⟨_, rfl⟩
  have HGS := Lib.hid hgs
  rw [hgs] at hmx hse
  clear hgl hgs
  go_enter Try.func8, Try.ntmps8
  go_wp2_with (first
    | (go_at_call 45; refine (awake13_any _).mono ?_; rintro e w9 ⟨rfl, h9⟩)
    | (go_at_call 43; refine (same_true m k gs w7 (Rd.of_owns hm hmx) (((((Rd.of_owns hk hmx).below (below_next h3 h4)).drewN n5).kept h6.size (fun b hb => h6.block b (((Rd.of_owns hk hmx).below (below_next h3 h4)).block b hb) (fun e => by have q1 := hk.lt b hb; have q2 := hl.lt b e.symm; omega))).below h7)).mono ?_; rintro e w8 ⟨rfl, n8, rfl⟩)
    | (go_at_call 39; refine (Groups_any f w6).mono ?_; rw [HGS.out]; rintro e w7 ⟨⟨m, rfl, hm⟩, h7⟩)
    | (go_at_call 44; refine (overInts_any l gs.length w.heap.size _ (w4.drewN n5) (hl.kept (below_grown (below_drewN h14 n5) none) (by by_cases hn : l.ownBlock = none; exact .inl hn; exact .inr hn)) hmx).mono ?_; rintro e w6 ⟨⟨r, rfl⟩, h6⟩)
    | (go_at_call 43; refine (same_true l k gs w4 ((Rd.of_owns hl hmx).below h14) ((Rd.of_owns hk hmx).below (below_next h3 h4))).mono ?_; rintro e w5 ⟨rfl, n5, rfl⟩)
    | (go_at_call 42; refine (rNext_any f g w3).mono ?_; rintro e w4 ⟨rfl, h4⟩; have h14 := below_next (below_next h2 h3) h4)
    | (go_at_call 41; refine (Next_any f g w2).mono ?_; rintro e w3 ⟨rfl, h3⟩)
    | (go_at_call 40; refine (rGroups_any f w1).mono ?_; rw [HGS.out]; rintro e w2 ⟨⟨k, rfl, hk⟩, h2⟩)
    | (go_at_call 39; refine (Groups_any f w).mono ?_; rw [HGS.out]; rintro e w1 ⟨⟨l, rfl, hl⟩, h1⟩)
    | (go_at_call 38; refine (rsize_any _ _).mono ?_; rintro e w' ⟨rfl, rfl⟩)
    | (go_at_call 37; refine (size_any _ _).mono ?_; rintro e w' ⟨rfl, rfl⟩))
  go_ret
  refine ⟨rfl, ?_⟩
  have q1 : Below w.heap.size w (w4.drewN n5) := below_drewN (below_next h1 h14) n5
  have q2 : Below w.heap.size w w6 := q1.grown h6 (by have := q1.size; omega) (fun j e => (hl.lt j e).1)
  exact below_next (below_drewN (below_next q2 h7) n8) h9
end Go.Proofs.Ytcieggaihelacaa
