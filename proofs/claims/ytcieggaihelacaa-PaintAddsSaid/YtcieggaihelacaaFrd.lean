/- The contracts of slices.Concat at three lists, of frame.Next, frame.Corner and of the document's answers. -/
import Derived.Test.YtcieggaihelacaaFrc
set_option linter.unusedSimpArgs false
set_option linter.unusedVariables false
namespace Go.Proofs.Ytcieggaihelacaa
open Go.RowKit
set_option maxRecDepth 100000 in
theorem grow_any (n : Nat) (w : World) (h0 : 0 < n) (hn : n ≤ 1000) :
    Calls Try.prog 97 #[.slice none 0 0, .int .i64 n] w fun e w' => (∃ v, e = .returned v ∧ w'.ownsRow w.heap.size 3 1 v 0 []) ∧ Below w.heap.size w w' := by
  obtain ⟨i, hi, hz0, hz1, hz2⟩ := info_parts Try.elInt.info
  have hr := Lib.run_append_nil_zeros (P := Try.prog) w 46 3 46 3 i (.int .i64 0) .i64 .i64 Try.underlying46 Try.underlying3 hi hz0 n h0 (by omega) (by omega) (by rw [hz2]; omega)
  have hge := grownCap_ge w n 0 3
  have hle := grownCap_le_maxLen w n 0 3 (by simp [maxLen]; omega)
  generalize grownCap w n 0 3 = c at hr hge hle
  have HR := Lib.hid hr
  clear hr hi hz0 hz1 hz2
  go_enter Try.func97, Try.ntmps97
  go_wp2_with (at_builtin; refine Lib.wpList_append_run _ rfl (.tmp 20) (.tmp 21) _ _ rfl _ _ rfl rfl _ _ HR.out ?_)
  go_ret
  refine ⟨⟨_, rfl, by simp, .inr ⟨w.heap.size, c, _, rfl, Nat.le_refl _, World.alloc_heap_new w.drew _, Nat.zero_le _, hle, ?_, by simp⟩⟩, ((Below.refl _ w).drew).alloc (Nat.le_refl _) _⟩
  simp [Builtin.zeroCells]
  omega
def cat3 (A B C : List Int) (k : Nat) : List Int := if k = 0 then [] else if k = 1 then A else if k = 2 then A ++ B else A ++ B ++ C
theorem num4 {k : Nat} (h : k ≤ 3) : k = 0 ∨ k = 1 ∨ k = 2 ∨ k = 3 := by omega
set_option maxRecDepth 100000 in
theorem concat_any (b : Nat) (u0 u1 u2 : Value) (A B C : List Int) (w : World) (hb : b < w.heap.size)
    (c0 : w.cell? ⟨b, 0, none⟩ = some u0) (c1 : w.cell? ⟨b, 1, none⟩ = some u1) (c2 : w.cell? ⟨b, 2, none⟩ = some u2)
    (r0 : Rd .i64 w u0 A) (r1 : Rd .i64 w u1 B) (r2 : Rd .i64 w u2 C) (hA : A.length ≤ 100) (hB : B.length ≤ 100) (hC : C.length ≤ 100) (hpos : 0 < A.length) :
    Calls Try.prog 83 #[.slice (some ⟨b, 0, none⟩) 3 3] w fun e w' => (∃ v, e = .returned v ∧ w'.ownsRow w.heap.size 3 1 v (A ++ B ++ C).length ((A ++ B ++ C).map (Value.int .i64))) ∧ Below w.heap.size w w' := by
  obtain ⟨a0, p0, rfl⟩ := r0.form
  obtain ⟨a1, p1, rfl⟩ := r1.form
  obtain ⟨a2, p2, rfl⟩ := r2.form
  go_enter Try.func83, Try.ntmps83
  go_wp2
  go_loop [3, 11] (fun s i => ∃ k : Nat, k ≤ 3 ∧ i = .int .i64 k ∧ s = .int .i64 (cat3 A B C k).length) (fun _ i => 3 - (intOf i).toNat)
  case atStart => exact ⟨0, by omega, rfl, rfl⟩
  case round =>
    obtain ⟨k, hk, rfl, rfl⟩ := hrel
    rcases num4 hk with rfl | rfl | rfl | rfl
    · have e : (cat3 A B C 0).length = 0 := rfl
      rw [e]; clear e
      go_wp2
      go_round
      case rel => exact ⟨1, by omega, by go_num, by simp [cat3]⟩
      case measure => simp [intOf]
    · have e : (cat3 A B C 1).length = A.length := rfl
      rw [e]; clear e
      go_wp2
      go_round
      case rel => exact ⟨2, by omega, by go_num, by simp [cat3]⟩
      case measure => simp [intOf]
    · have e : (cat3 A B C 2).length = A.length + B.length := by simp [cat3]
      rw [e]; clear e
      go_wp2
      go_round
      case rel => exact ⟨3, by omega, by go_num, by simp [cat3]; omega⟩
      case measure => simp [intOf]
    · have e : (cat3 A B C 3).length = A.length + B.length + C.length := by simp [cat3]; omega
      rw [e]; clear e
      go_wp2_with (go_at_call 97; have hh := grow_any (A.length + B.length + C.length) w (by omega) (by omega); refine (by simpa using hh : Calls _ _ _ _ _).mono ?_; rintro e w' ⟨⟨v, rfl, hown⟩, hb1⟩)
      go_loopw [6, 27] (fun v i wr => ∃ k : Nat, k ≤ 3 ∧ i = .int .i64 k ∧ wr.ownsRow w.heap.size 3 1 v (cat3 A B C k).length ((cat3 A B C k).map (Value.int .i64)) ∧ Below w.heap.size w wr) (fun _ i _ => 3 - (intOf i).toNat)
      case atStart => exact ⟨0, by omega, rfl, by simpa [cat3] using hown, hb1⟩
      case round =>
        obtain ⟨k, hk2, rfl, hown, hb2⟩ := hrel
        clear hb1
        have k0 := (hb2.cell (p := ⟨b, 0, none⟩) hb).trans c0
        have k1 := (hb2.cell (p := ⟨b, 1, none⟩) hb).trans c1
        have k2 := (hb2.cell (p := ⟨b, 2, none⟩) hb).trans c2
        have d0 := r0.below hb2
        have d1 := r1.below hb2
        have d2 := r2.below hb2
        clear c0 c1 c2 r0 r1 r2
        rcases num4 hk2 with rfl | rfl | rfl | rfl
        · have e : (cat3 A B C 0).length = 0 := by simp [cat3]
          have e2 : cat3 A B C 1 = cat3 A B C 0 ++ A := by simp [cat3]
          have E2 := Lib.hid e2
          rw [e] at hown
          clear e e2
          go_wp2_with (at_builtin; refine wp_appN Try.elInt rfl rfl hown d0 (by omega) (by have := hb2.size; omega) ?_; intro g1 p1 w1 hown1 hgrow1 _)
          go_roundw
          case rel =>
            refine ⟨1, by omega, by go_num, ?_, hb2.grown hgrow1 hb2.size (fun j e => (hown.lt j e).1)⟩
            rw [E2.out, List.map_append, List.length_append]
            simpa [cat3, Nat.add_assoc] using hown1
          case measure => simp [intOf]
        · have e : (cat3 A B C 1).length = A.length := by simp [cat3]
          have e2 : cat3 A B C 2 = cat3 A B C 1 ++ B := by simp [cat3]
          have E2 := Lib.hid e2
          rw [e] at hown
          clear e e2
          go_wp2_with (at_builtin; refine wp_appN Try.elInt rfl rfl hown d1 (by omega) (by have := hb2.size; omega) ?_; intro g1 p1 w1 hown1 hgrow1 _)
          go_roundw
          case rel =>
            refine ⟨2, by omega, by go_num, ?_, hb2.grown hgrow1 hb2.size (fun j e => (hown.lt j e).1)⟩
            rw [E2.out, List.map_append, List.length_append]
            simpa [cat3, Nat.add_assoc] using hown1
          case measure => simp [intOf]
        · have e : (cat3 A B C 2).length = A.length + B.length := by simp [cat3]
          have e2 : cat3 A B C 3 = cat3 A B C 2 ++ C := by simp [cat3]
          have E2 := Lib.hid e2
          rw [e] at hown
          clear e e2
          go_wp2_with (at_builtin; refine wp_appN Try.elInt rfl rfl hown d2 (by omega) (by have := hb2.size; omega) ?_; intro g1 p1 w1 hown1 hgrow1 _)
          go_roundw
          case rel =>
            refine ⟨3, by omega, by go_num, ?_, hb2.grown hgrow1 hb2.size (fun j e => (hown.lt j e).1)⟩
            rw [E2.out, List.map_append, List.length_append]
            simpa [cat3, Nat.add_assoc] using hown1
          case measure => simp [intOf]
        · go_wp2
          go_ret
          exact ⟨⟨_, rfl, by simpa [cat3] using hown⟩, hb2⟩
end Go.Proofs.Ytcieggaihelacaa
