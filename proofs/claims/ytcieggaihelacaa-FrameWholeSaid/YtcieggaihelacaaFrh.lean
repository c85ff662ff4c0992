/- The contracts of slices.Index, slices.Contains at []int, SameInts, OverInts, Pick. -/
import Derived.Test.YtcieggaihelacaaFra
set_option linter.unusedSimpArgs false
set_option linter.unusedVariables false
namespace Go.Proofs.Ytcieggaihelacaa
open Go.RowKit
theorem index_any (v : Value) (x : Int) (xs : List Int) (w : World) (h : Rd .i64 w v xs) :
    Calls Try.prog 84 #[v, .int .i64 x] w fun e w' => e = .returned (.int .i64 (idxI x xs)) ∧ w = w' := by
  rcases h with ⟨rfl, rfl⟩ | ⟨b, off, cap, rfl, _, hcap, hlen, hc⟩
  · have hI : idxI x [] = -1 := rfl
    rw [hI]; clear hI
    go_enter Try.func84, Try.ntmps84
    go_wp2
    go_loop [8] (fun i => i = .int .i64 0) (fun _ => 0)
    case atStart => rfl
    case round =>
      subst hrel
      go_wp2
      go_ret
      exact ⟨rfl, rfl⟩
  · go_enter Try.func84, Try.ntmps84
    go_wp2
    go_loop [5, 8] (fun _ i => ∃ k : Nat, k ≤ xs.length ∧ i = .int .i64 k ∧ ∀ j, j < k → xs[j]?.getD 0 ≠ x) (fun _ i => xs.length - (intOf i).toNat)
    case atStart => exact ⟨0, Nat.zero_le _, rfl, fun j hj => by omega⟩
    case round =>
      obtain ⟨k, hk, rfl, hn⟩ := hrel
      have HN := Lib.hid hn
      clear hn
      by_cases hlt : k < xs.length
      · have hck := hc k hlt
        clear hc
        generalize hy : xs[k]?.getD 0 = y at hck
        have HY := Lib.hid hy
        clear hy
        by_cases hx : x = y
        · have HI := Lib.hid (idxI_found hlt HN.out (HY.out.trans hx.symm))
          subst hx
          go_wp2
          go_ret
          exact ⟨ret_int HI.out.symm, rfl⟩
        · have hx' : (x == y) = false := by simpa using hx
          have HX := Lib.hid hx
          clear hx
          go_wp2
          go_round
          case rel =>
            refine ⟨k + 1, by omega, by go_num, fun j hj => ?_⟩
            by_cases e : j = k
            · subst e; rw [HY.out]; exact fun e => HX.out e.symm
            · exact HN.out j (by omega)
          case measure => simp [intOf]; omega
      · have e : k = xs.length := by omega
        subst e
        go_wp2
        go_ret
        exact ⟨ret_int (idxI_none HN.out).symm, rfl⟩
theorem contains_any (v : Value) (x : Int) (xs : List Int) (w : World) (h : Rd .i64 w v xs) :
    Calls Try.prog 85 #[v, .int .i64 x] w fun e w' => e = .returned (.bool (decide (0 ≤ idxI x xs))) ∧ w = w' := by
  go_enter Try.func85, Try.ntmps85
  go_wp2_with (go_at_call 84; refine (index_any _ _ _ _ h).mono ?_; rintro e w' ⟨rfl, rfl⟩)
  go_ret
  exact ⟨rfl, rfl⟩
/-- Two lists of numbers, compared. -/
theorem sameInts_any (v u : Value) (xs ys : List Int) (w : World) (h : Rd .i64 w v xs) (g : Rd .i64 w u ys) :
    Calls Try.prog 43 #[v, u] w fun e w' => e = .returned (.bool (decide (xs = ys))) ∧ ∃ n, w' = w.drewN n := by
  have hl := h.len
  have gl := g.len
  by_cases hlen : xs.length = ys.length
  · rcases h with ⟨rfl, rfl⟩ | ⟨b, off, cap, rfl, _, hcap, hlen1, hc⟩
    · obtain rfl : ys = [] := List.eq_nil_of_length_eq_zero hlen.symm
      obtain ⟨a, c, rfl⟩ := g.form
      go_enter Try.func43, Try.ntmps43
      go_wp2
      go_loop [5] (fun i => i = .int .i64 0) (fun _ => 0)
      case atStart => rfl
      case round =>
        subst hrel
        go_wp2
        go_ret
        exact ⟨rfl, 0, rfl⟩
    · rcases g with ⟨rfl, rfl⟩ | ⟨b2, off2, cap2, rfl, _, hcap2, hlen2, hc2⟩
      · obtain rfl : xs = [] := List.eq_nil_of_length_eq_zero hlen
        go_enter Try.func43, Try.ntmps43
        go_wp2
        go_loop [5] (fun i => i = .int .i64 0) (fun _ => 0)
        case atStart => rfl
        case round =>
          subst hrel
          go_wp2
          go_ret
          exact ⟨rfl, 0, rfl⟩
      · have ht : ((xs.length : Int) != (ys.length : Int)) = false := by simp [hlen]
        have HL := Lib.hid hlen
        clear hlen
        go_enter Try.func43, Try.ntmps43
        go_wp2
        go_loopw [5] (fun i wr => ∃ k : Nat, k ≤ xs.length ∧ i = .int .i64 k ∧ (∀ j, j < k → xs[j]?.getD 0 = ys[j]?.getD 0) ∧ ∃ n, wr = w.drewN n) (fun i _ => xs.length - (intOf i).toNat)
        case atStart => exact ⟨0, Nat.zero_le _, rfl, fun j hj => by omega, 0, rfl⟩
        case round =>
          obtain ⟨k, hk, rfl, hn, n0, rfl⟩ := hrel
          have HN := Lib.hid hn
          clear hn
          by_cases hlt : k < xs.length
          · have hlt2 : k < ys.length := by rw [← HL.out]; exact hlt
            have hck := hc k hlt
            have hck2 := hc2 k hlt2
            clear hc hc2
            have t1 : (k : Int) < (xs.length : Int) := by omega
            have t2 : (k : Int) < (ys.length : Int) := by omega
            generalize hy : xs[k]?.getD 0 = y at hck
            generalize hz : ys[k]?.getD 0 = z at hck2
            have HY := Lib.hid hy
            have HZ := Lib.hid hz
            clear hy hz
            by_cases hx : y = z
            · subst hx
              go_wp2
              go_quiet (fail)
              go_wp2
              go_roundw
              case rel =>
                refine ⟨k + 1, by omega, by go_num, fun j hj => ?_, _, rfl⟩
                by_cases e : j = k
                · subst e; rw [HY.out, HZ.out]
                · exact HN.out j (by omega)
              case measure => simp [intOf]; omega
            · have hx' : (y != z) = true := by simpa using hx
              have HX := Lib.hid hx
              clear hx
              go_wp2
              go_quiet (fail)
              go_wp2
              go_ret
              have he : ¬ xs = ys := fun e => HX.out (by rw [← HY.out, ← HZ.out, e])
              refine ⟨?_, _, World.drewN_drewN _ _ _⟩
              rw [decide_eq_false he]
              rfl
          · have e : k = xs.length := by omega
            subst e
            clear hc hc2
            go_wp2
            go_ret
            have he : xs = ys := by
              refine List.ext_getElem HL.out (fun j h1 h2 => ?_)
              have := HN.out j h1
              simpa [h1, h2] using this
            refine ⟨?_, _, rfl⟩
            rw [decide_eq_true he]
            rfl
  · obtain ⟨a, c, rfl⟩ := h.form
    obtain ⟨a2, c2, rfl⟩ := g.form
    have ht : ((xs.length : Int) != (ys.length : Int)) = true := by simp; omega
    have hd : decide (xs = ys) = false := by rw [decide_eq_false]; intro e; exact hlen (by rw [e])
    rw [hd]; clear hd hlen h g
    go_enter Try.func43, Try.ntmps43
    go_wp2
    go_ret
    exact ⟨rfl, 0, rfl⟩
theorem pick_any (x n : Int) (w : World) (h1 : -9223372036854775808 ≤ x) (h2 : x ≤ 9223372036854775807) (hn : 0 < n) (hn2 : n ≤ 1000000) :
    Calls Try.prog 21 #[.int .i64 x, .int .i64 n] w fun e w' => e = .returned (.int .i64 (x % n)) ∧ w = w' := by
  have hm : x.tmod n = if x % n = 0 ∨ 0 ≤ x then x % n else x % n - n := by
    rw [Int.tmod_eq_emod]
    split <;> split <;> rename_i a b <;> simp_all <;> omega
  have hb1 := Int.emod_nonneg x (show n ≠ 0 by omega)
  have hb2 := Int.emod_lt_of_pos x hn
  by_cases hx : x % n = 0 ∨ 0 ≤ x
  · rw [if_pos hx] at hm
    have HM := Lib.hid hm
    have t1 : decide (x.tmod n < 0) = false := by rw [hm]; simp; omega
    clear hm hx
    go_enter Try.func21, Try.ntmps21
    go_wp2
    all_goals go_ret
    all_goals exact ⟨ret_int HM.out, rfl⟩
  · rw [if_neg hx] at hm
    have HM := Lib.hid hm
    have t1 : decide (x.tmod n < 0) = true := by rw [hm]; simp; omega
    clear hm hx
    go_enter Try.func21, Try.ntmps21
    go_wp2
    all_goals go_ret
    all_goals (refine ⟨ret_int ?_, rfl⟩; rw [HM.out]; simp [wrap64]; omega)
end Go.Proofs.Ytcieggaihelacaa
/- The contracts of OverInts, Groups, Concat of three lists, Next, Corner and of the document's answers beside them. -/
namespace Go.Proofs.Ytcieggaihelacaa
open Go.RowKit
theorem overInts_any (v : Value) (n base : Nat) (xs : List Value) (w : World) (h : w.ownsRow base 3 1 v n xs) (hn : n ≤ 140737488351232) :
    Calls Try.prog 44 #[v] w fun e w' => (∃ r, e = .returned r) ∧ w.grownBy w' v.ownBlock := by
  rcases owns_blk h with ⟨rfl, rfl, rfl⟩ | ⟨g, cap, cur, rfl, hb, hh, hnc, hcm, hs, ht⟩
  · go_enter Try.func44, Try.ntmps44
    go_wp2
    go_loop [2] (fun i => i = .int .i64 0) (fun _ => 0)
    case atStart => rfl
    case round =>
      subst hrel
      go_wp2
      go_end0
      exact ⟨⟨_, rfl⟩, World.grownBy.refl _ _⟩
  · clear h ht
    have HS := Lib.hid hs
    clear hs
    go_enter Try.func44, Try.ntmps44
    go_wp2
    go_loopw [2] (fun i wr => ∃ k : Nat, k ≤ n ∧ i = .int .i64 k ∧ w.grownBy wr (some g) ∧ ∃ cur', wr.heap[g]? = some (.cells cur' 3 (0, 0)) ∧ cur'.size = cap) (fun i _ => n - (intOf i).toNat)
    case atStart => exact ⟨0, Nat.zero_le _, rfl, World.grownBy.refl _ _, cur, hh, HS.out⟩
    case round =>
      obtain ⟨k, hk, rfl, hg, cur', hh', hs'⟩ := hrel
      have HS' := Lib.hid hs'
      have HH := Lib.hid hh'
      clear hs' hh' hh
      by_cases hlt : k < n
      · have hc : wr.cell? ⟨g, k, none⟩ = some (cur'[k]?.getD undef) := by
          rw [blk_cell HH.out, Array.getElem?_eq_getElem (by rw [HS'.out]; omega)]; rfl
        have hf := blk_free HH.out k
        generalize cur'[k]?.getD undef = u at hc
        go_wp2
        go_roundw
        case rel => exact ⟨k + 1, by omega, by go_num, hg.trans (grown_set wr ⟨g, k, none⟩ _), _, blk_set HH.out k _, by simp [HS'.out]⟩
        case measure => simp [intOf]; omega
      · go_wp2
        go_end0
        exact ⟨⟨_, rfl⟩, hg⟩
theorem fmt_yes {f : Int} (h : f = 0 ∨ f = 1) : 0 < wideS f ∧ fmtE f = 0 := by rcases h with rfl | rfl <;> decide
theorem fmt_no {f : Int} (h : ¬ (f = 0 ∨ f = 1)) : wideS f = 0 ∧ fmtE f = 3 ∧ groupsS f = [] := by
  unfold wideS fmtE groupsS
  rw [if_neg (by omega), if_neg (by omega), if_neg (by omega), if_neg (by omega), if_neg (by omega), if_neg (by omega)]
  exact ⟨rfl, rfl, rfl⟩
theorem gs_len (f : Int) : (groupsS f).length ≤ 12 := by
  unfold groupsS; split
  · decide
  · split <;> decide
theorem Groups_any (f : Int) (w : World) :
    Calls Try.prog 39 #[.int .i64 f] w fun e w' => (∃ v, e = .returned (.tuple #[v, .int .i64 (fmtE f)]) ∧ w'.ownsRow w.heap.size 3 1 v (groupsS f).length ((groupsS f).map (Value.int .i64))) ∧ Below w.heap.size w w' := by
  by_cases h : f = 0 ∨ f = 1
  · obtain ⟨h1, h2⟩ := fmt_yes h
    have t : decide (0 < wideS f) = true := by simpa using h1
    rw [h2]; clear h1 h2
    go_enter Try.func39, Try.ntmps39
    go_wp2_with (first
      | (go_at_call 79; refine (there_any _ _).mono ?_; rintro e w' ⟨rfl, rfl⟩)
      | (go_at_call 82; refine (groups_any _ _ h).mono ?_; rintro e w' ⟨⟨v, rfl, hown⟩, hb⟩))
    go_ret2
    exact ⟨⟨_, rfl, hown⟩, hb⟩
  · obtain ⟨h1, h2, h3⟩ := fmt_no h
    have t : decide (0 < wideS f) = false := by rw [h1]; rfl
    rw [h2, h3]; clear h1 h2 h3 h
    go_enter Try.func39, Try.ntmps39
    go_wp2_with (first
      | (go_at_call 79; refine (there_any _ _).mono ?_; rintro e w' ⟨rfl, rfl⟩))
    go_ret2
    exact ⟨⟨_, rfl, World.ownsRow_nil _ _ _ _⟩, Below.refl _ _⟩
theorem owns_new {w : World} (t : TypeId) (us : List Value) (hl : us.length ≤ maxLen) : (w.alloc (.cells us.toArray t)).ownsRow w.heap.size t 1 (.slice (some ⟨w.heap.size, 0, none⟩) us.length us.length) us.length us :=
  ⟨by simp, .inr ⟨w.heap.size, us.length, us.toArray, rfl, Nat.le_refl _, World.alloc_heap_new w _, Nat.le_refl _, hl, by simp, by simp⟩⟩
theorem rGroups_any (f : Int) (w : World) :
    Calls Try.prog 40 #[.int .i64 f] w fun e w' => (∃ v, e = .returned (.tuple #[v, .int .i64 (fmtE f)]) ∧ w'.ownsRow w.heap.size 3 1 v (groupsS f).length ((groupsS f).map (Value.int .i64))) ∧ Below w.heap.size w w' := by
  by_cases h0 : f = 0
  · subst h0
    go_enter Try.func40, Try.ntmps40
    go_wp2
    go_ret2
    exact ⟨⟨_, rfl, owns_new 3 [.int .i64 1, .int .i64 3, .int .i64 5] (by decide)⟩, (Below.refl _ _).alloc (Nat.le_refl _) _⟩
  by_cases h1 : f = 1
  · subst h1
    go_enter Try.func40, Try.ntmps40
    go_wp2
    go_ret2
    exact ⟨⟨_, rfl, owns_new 3 [.int .i64 1, .int .i64 2, .int .i64 3, .int .i64 4, .int .i64 5, .int .i64 6, .int .i64 7, .int .i64 8, .int .i64 9, .int .i64 10, .int .i64 11, .int .i64 12] (by decide)⟩, (Below.refl _ _).alloc (Nat.le_refl _) _⟩
  · obtain ⟨_, h2, h3⟩ := fmt_no (show ¬ (f = 0 ∨ f = 1) by omega)
    rw [h2, h3]; clear h2 h3
    go_enter Try.func40, Try.ntmps40
    go_wp2
    go_ret2
    exact ⟨⟨_, rfl, World.ownsRow_nil _ _ _ _⟩, Below.refl _ _⟩
end Go.Proofs.Ytcieggaihelacaa
/- The contracts of slices.Concat at three lists, of frame.Next, frame.Corner and of the document's answers. -/
namespace Go.Proofs.Ytcieggaihelacaa
open Go.RowKit
set_option maxRecDepth 100000 in
theorem grow_any (n : Nat) (w : World) (h0 : 0 < n) (hn : n ≤ 1000) :
    Calls Try.prog 97 #[.slice none 0 0, .int .i64 n] w fun e w' => (∃ v, e = .returned v ∧ w'.ownsRow w.heap.size 3 1 v 0 []) ∧ Below w.heap.size w w' := by
  obtain ⟨i, hi, hz0, hz1, hz2⟩ := info_parts Try.elInt.info
  have hr := Lib.run_append_nil_zeros (P := Try.prog) w 46 3 46 3 i (.int .i64 0) .i64 .i64 Try.underlying46 Try.underlying3 hi hz0 n h0 (by omega) (by omega) (by rw [hz2]; omega)
  have hge := grownCap_ge w n 0 3
  have hle := grownCap_le_maxLen w n 0 3 (by simp [maxLen]; omega)
  generalize grownCap w n 0 3 = c at hr hge hle
  have HR := Lib.hid hr
  clear hr hi hz0 hz1 hz2
  go_enter Try.func97, Try.ntmps97
  go_wp2_with (at_builtin; refine Lib.wpList_append_run _ rfl (.tmp 20) (.tmp 21) _ _ rfl _ _ rfl rfl _ _ HR.out ?_)
  go_ret
  refine ⟨⟨_, rfl, by simp, .inr ⟨w.heap.size, c, _, rfl, Nat.le_refl _, World.alloc_heap_new w.drew _, Nat.zero_le _, hle, ?_, by simp⟩⟩, ((Below.refl _ w).drew).alloc (Nat.le_refl _) _⟩
  simp [Builtin.zeroCells]
  omega
def cat3 (A B C : List Int) (k : Nat) : List Int := if k = 0 then [] else if k = 1 then A else if k = 2 then A ++ B else A ++ B ++ C
theorem num4 {k : Nat} (h : k ≤ 3) : k = 0 ∨ k = 1 ∨ k = 2 ∨ k = 3 := by omega
set_option maxRecDepth 100000 in
theorem concat_any (b : Nat) (u0 u1 u2 : Value) (A B C : List Int) (w : World) (hb : b < w.heap.size)
    (c0 : w.cell? ⟨b, 0, none⟩ = some u0) (c1 : w.cell? ⟨b, 1, none⟩ = some u1) (c2 : w.cell? ⟨b, 2, none⟩ = some u2)
    (r0 : Rd .i64 w u0 A) (r1 : Rd .i64 w u1 B) (r2 : Rd .i64 w u2 C) (hA : A.length ≤ 100) (hB : B.length ≤ 100) (hC : C.length ≤ 100) (hpos : 0 < A.length) :
    Calls Try.prog 83 #[.slice (some ⟨b, 0, none⟩) 3 3] w fun e w' => (∃ v, e = .returned v ∧ w'.ownsRow w.heap.size 3 1 v (A ++ B ++ C).length ((A ++ B ++ C).map (Value.int .i64))) ∧ Below w.heap.size w w' := by
  obtain ⟨a0, p0, rfl⟩ := r0.form
  obtain ⟨a1, p1, rfl⟩ := r1.form
  obtain ⟨a2, p2, rfl⟩ := r2.form
  go_enter Try.func83, Try.ntmps83
  go_wp2
  go_loop [3, 11] (fun s i => ∃ k : Nat, k ≤ 3 ∧ i = .int .i64 k ∧ s = .int .i64 (cat3 A B C k).length) (fun _ i => 3 - (intOf i).toNat)
  case atStart => exact ⟨0, by omega, rfl, rfl⟩
  case round =>
    obtain ⟨k, hk, rfl, rfl⟩ := hrel
    rcases num4 hk with rfl | rfl | rfl | rfl
    · have e : (cat3 A B C 0).length = 0 := rfl
      rw [e]; clear e
      go_wp2
      go_round
      case rel => exact ⟨1, by omega, by go_num, by simp [cat3]⟩
      case measure => simp [intOf]
    · have e : (cat3 A B C 1).length = A.length := rfl
      rw [e]; clear e
      go_wp2
      go_round
      case rel => exact ⟨2, by omega, by go_num, by simp [cat3]⟩
      case measure => simp [intOf]
    · have e : (cat3 A B C 2).length = A.length + B.length := by simp [cat3]
      rw [e]; clear e
      go_wp2
      go_round
      case rel => exact ⟨3, by omega, by go_num, by simp [cat3]; omega⟩
      case measure => simp [intOf]
    · have e : (cat3 A B C 3).length = A.length + B.length + C.length := by simp [cat3]; omega
      rw [e]; clear e
      go_wp2_with (go_at_call 97; have hh := grow_any (A.length + B.length + C.length) w (by omega) (by omega); refine (by simpa using hh : Calls _ _ _ _ _).mono ?_; rintro e w' ⟨⟨v, rfl, hown⟩, hb1⟩)
      go_loopw [6, 27] (fun v i wr => ∃ k : Nat, k ≤ 3 ∧ i = .int .i64 k ∧ wr.ownsRow w.heap.size 3 1 v (cat3 A B C k).length ((cat3 A B C k).map (Value.int .i64)) ∧ Below w.heap.size w wr) (fun _ i _ => 3 - (intOf i).toNat)
      case atStart => exact ⟨0, by omega, rfl, by simpa [cat3] using hown, hb1⟩
      case round =>
        obtain ⟨k, hk2, rfl, hown, hb2⟩ := hrel
        clear hb1
        have k0 := (hb2.cell (p := ⟨b, 0, none⟩) hb).trans c0
        have k1 := (hb2.cell (p := ⟨b, 1, none⟩) hb).trans c1
        have k2 := (hb2.cell (p := ⟨b, 2, none⟩) hb).trans c2
        have d0 := r0.below hb2
        have d1 := r1.below hb2
        have d2 := r2.below hb2
        clear c0 c1 c2 r0 r1 r2
        rcases num4 hk2 with rfl | rfl | rfl | rfl
        · have e : (cat3 A B C 0).length = 0 := by simp [cat3]
          have e2 : cat3 A B C 1 = cat3 A B C 0 ++ A := by simp [cat3]
          have E2 := Lib.hid e2
          rw [e] at hown
          clear e e2
          go_wp2_with (at_builtin; refine wp_appN Try.elInt rfl rfl hown d0 (by omega) (by have := hb2.size; omega) ?_; intro g1 p1 w1 hown1 hgrow1 _)
          go_roundw
          case rel =>
            refine ⟨1, by omega, by go_num, ?_, hb2.grown hgrow1 hb2.size (fun j e => (hown.lt j e).1)⟩
            rw [E2.out, List.map_append, List.length_append]
            simpa [cat3, Nat.add_assoc] using hown1
          case measure => simp [intOf]
        · have e : (cat3 A B C 1).length = A.length := by simp [cat3]
          have e2 : cat3 A B C 2 = cat3 A B C 1 ++ B := by simp [cat3]
          have E2 := Lib.hid e2
          rw [e] at hown
          clear e e2
          go_wp2_with (at_builtin; refine wp_appN Try.elInt rfl rfl hown d1 (by omega) (by have := hb2.size; omega) ?_; intro g1 p1 w1 hown1 hgrow1 _)
          go_roundw
          case rel =>
            refine ⟨2, by omega, by go_num, ?_, hb2.grown hgrow1 hb2.size (fun j e => (hown.lt j e).1)⟩
            rw [E2.out, List.map_append, List.length_append]
            simpa [cat3, Nat.add_assoc] using hown1
          case measure => simp [intOf]
        · have e : (cat3 A B C 2).length = A.length + B.length := by simp [cat3]
          have e2 : cat3 A B C 3 = cat3 A B C 2 ++ C := by simp [cat3]
          have E2 := Lib.hid e2
          rw [e] at hown
          clear e e2
          go_wp2_with (at_builtin; refine wp_appN Try.elInt rfl rfl hown d2 (by omega) (by have := hb2.size; omega) ?_; intro g1 p1 w1 hown1 hgrow1 _)
          go_roundw
          case rel =>
            refine ⟨3, by omega, by go_num, ?_, hb2.grown hgrow1 hb2.size (fun j e => (hown.lt j e).1)⟩
            rw [E2.out, List.map_append, List.length_append]
            simpa [cat3, Nat.add_assoc] using hown1
          case measure => simp [intOf]
        · go_wp2
          go_ret
          exact ⟨⟨_, rfl, by simpa [cat3] using hown⟩, hb2⟩
end Go.Proofs.Ytcieggaihelacaa
/- The contracts of frame.Next, frame.Corner and of the document's Next, Corner, Place. -/
namespace Go.Proofs.Ytcieggaihelacaa
open Go.RowKit
def nextV (f g : Int) : Int := if f = 1 then (if 0 ≤ g ∧ g ≤ 11 then g + 1 else 0) else if f = 0 then (if g = 0 then 1 else if g = 1 then 3 else if g = 3 then 5 else 0) else 0
def nextE (f g : Int) : Int := if f = 1 then (if 0 ≤ g ∧ g ≤ 12 then 0 else 8) else if f = 0 then (if g = 0 ∨ g = 1 ∨ g = 3 ∨ g = 5 then 0 else 8) else 3
def nextL (f : Int) : List Int := [0] ++ groupsS f ++ [0]
theorem next_tells (f g : Int) (h : f = 0 ∨ f = 1) :
    (nextE f g = 8 ∧ nextV f g = 0 ∧ idxI g (nextL f) = -1) ∨
    (nextE f g = 0 ∧ ∃ k : Nat, idxI g (nextL f) = k ∧ k + 1 < (nextL f).length ∧ (nextL f)[k + 1]?.getD 0 = nextV f g) := by
  rcases h with rfl | rfl
  · by_cases g0 : g = 0
    · subst g0; exact Or.inr ⟨by decide, 0, by decide, by decide, by decide⟩
    by_cases g1 : g = 1
    · subst g1; exact Or.inr ⟨by decide, 1, by decide, by decide, by decide⟩
    by_cases g3 : g = 3
    · subst g3; exact Or.inr ⟨by decide, 2, by decide, by decide, by decide⟩
    by_cases g5 : g = 5
    · subst g5; exact Or.inr ⟨by decide, 3, by decide, by decide, by decide⟩
    · refine Or.inl ⟨by simp [nextE, *], by simp [nextV, *], ?_⟩
      simp [idxI, nextL, groupsS, *]
  · by_cases hg : 0 ≤ g ∧ g ≤ 12
    · have hc : g = 0 ∨ g = 1 ∨ g = 2 ∨ g = 3 ∨ g = 4 ∨ g = 5 ∨ g = 6 ∨ g = 7 ∨ g = 8 ∨ g = 9 ∨ g = 10 ∨ g = 11 ∨ g = 12 := by omega
      rcases hc with rfl | rfl | rfl | rfl | rfl | rfl | rfl | rfl | rfl | rfl | rfl | rfl | rfl
      · exact Or.inr ⟨by decide, 0, by decide, by decide, by decide⟩
      · exact Or.inr ⟨by decide, 1, by decide, by decide, by decide⟩
      · exact Or.inr ⟨by decide, 2, by decide, by decide, by decide⟩
      · exact Or.inr ⟨by decide, 3, by decide, by decide, by decide⟩
      · exact Or.inr ⟨by decide, 4, by decide, by decide, by decide⟩
      · exact Or.inr ⟨by decide, 5, by decide, by decide, by decide⟩
      · exact Or.inr ⟨by decide, 6, by decide, by decide, by decide⟩
      · exact Or.inr ⟨by decide, 7, by decide, by decide, by decide⟩
      · exact Or.inr ⟨by decide, 8, by decide, by decide, by decide⟩
      · exact Or.inr ⟨by decide, 9, by decide, by decide, by decide⟩
      · exact Or.inr ⟨by decide, 10, by decide, by decide, by decide⟩
      · exact Or.inr ⟨by decide, 11, by decide, by decide, by decide⟩
      · exact Or.inr ⟨by decide, 12, by decide, by decide, by decide⟩
    · refine Or.inl ⟨by simp [nextE]; omega, by simp [nextV]; omega, ?_⟩
      have : g ∉ nextL 1 := by simp [nextL, groupsS]; omega
      simp only [idxI, if_neg this]
theorem concat_next (f : Int) (w1 : World) (a : Option Addr) (c : Nat) (hrd : Rd .i64 w1 (.slice a (groupsS f).length c) (groupsS f)) :
    Calls Try.prog 83 #[.slice (some ⟨w1.heap.size + 1 + 1, 0, none⟩) 3 3]
      (((w1.alloc (.cells #[.int .i64 0] 3)).alloc (.cells #[.int .i64 0] 3)).alloc (.cells #[.slice (some ⟨w1.heap.size, 0, none⟩) 1 1, .slice a (groupsS f).length c, .slice (some ⟨w1.heap.size + 1, 0, none⟩) 1 1] 46))
      fun e w' => (∃ b off cap, e = .returned (.slice (some ⟨b, off, none⟩) (nextL f).length cap) ∧ Rd .i64 w' (.slice (some ⟨b, off, none⟩) (nextL f).length cap) (nextL f) ∧
        ∀ i : Nat, i < (nextL f).length → w'.cell? ⟨b, off + i, none⟩ = some (.int .i64 ((nextL f)[i]?.getD 0))) ∧ Below w1.heap.size w1 w' := by
  have hl := gs_len f
  refine (concat_any (w1.heap.size + 1 + 1) (.slice (some ⟨w1.heap.size, 0, none⟩) 1 1) (.slice a (groupsS f).length c) (.slice (some ⟨w1.heap.size + 1, 0, none⟩) 1 1) [0] (groupsS f) [0] _ (by simp) (by simp [go_sem]) (by simp [go_sem]) (by simp [go_sem]) (((Rd.new1 _ _ _ _).alloc _).alloc _) (((hrd.alloc _).alloc _).alloc _) (by have := (Rd.new1 .i64 (w1.alloc (.cells #[.int .i64 0] 3)) 0 3).alloc (.cells #[.slice (some ⟨w1.heap.size, 0, none⟩) 1 1, .slice a (groupsS f).length c, .slice (some ⟨w1.heap.size + 1, 0, none⟩) 1 1] 46); simpa using this) (by simp) (by omega) (by simp) (by simp)).mono ?_
  rintro e w' ⟨⟨v, rfl, hown⟩, hb⟩
  have hr : Rd .i64 w' v (nextL f) := Rd.of_owns hown (by simp [nextL]; omega)
  refine ⟨?_, ?_⟩
  · rcases id hr with ⟨_, h0⟩ | ⟨b, off, cap, rfl, _, _, _, hc⟩
    · simp [nextL] at h0
    · exact ⟨b, off, cap, rfl, hr, hc⟩
  · have h0 : Below w1.heap.size w1 (((w1.alloc (.cells #[.int .i64 0] 3)).alloc (.cells #[.int .i64 0] 3)).alloc (.cells #[.slice (some ⟨w1.heap.size, 0, none⟩) 1 1, .slice a (groupsS f).length c, .slice (some ⟨w1.heap.size + 1, 0, none⟩) 1 1] 46)) :=
      (((Below.refl _ w1).alloc (Nat.le_refl _) _).alloc (by simp) _).alloc (by simp; omega) _
    exact h0.trans (hb.mono (by simp; omega))
set_option maxRecDepth 100000 in
theorem Next_any (f g : Int) (w : World) :
    Calls Try.prog 41 #[.int .i64 f, .int .i64 g] w fun e w' => e = .returned (.tuple #[.int .i64 (nextV f g), .int .i64 (nextE f g)]) ∧ Below w.heap.size w w' := by
  by_cases h : f = 0 ∨ f = 1
  · obtain ⟨_, h2⟩ := fmt_yes h
    have hl := gs_len f
    have hL : (nextL f).length ≤ 14 := by simp [nextL]; omega
    have ht := next_tells f g h
    generalize hE : nextE f g = E at ht
    generalize hV : nextV f g = V at ht
    have HE := Lib.hid hE
    have HV := Lib.hid hV
    clear hE hV
    rcases ht with ⟨rfl, rfl, hi⟩ | ⟨rfl, k, hi, hk, hv⟩
    · have HI := Lib.hid hi
      clear hi
      go_enter Try.func41, Try.ntmps41
      go_wp2_with (first
        | (go_at_call 39; refine (Groups_any _ _).mono ?_; rintro e w1 ⟨⟨v, rfl, hown⟩, hb⟩; have hrd := Rd.of_owns hown (by omega); obtain ⟨a, c, rfl⟩ := hrd.form)
        | (go_at_call 83; refine (concat_next f w1 _ _ hrd).mono ?_; rintro e w2 ⟨⟨b, off, cap, rfl, hr2, hc2⟩, hb2⟩; clear hc2)
        | (go_at_call 84; refine (index_any _ _ _ _ hr2).mono ?_; rintro e w3 ⟨rfl, rfl⟩; rw [HI.out]))
      go_ret2
      exact ⟨rfl, hb.trans (hb2.mono hb.size)⟩
    · have HI := Lib.hid hi
      have HV2 := Lib.hid hv
      have hkb : (k : Int) + 1 < ((nextL f).length : Int) := by omega
      have hkt : ((k : Int) + 1).toNat = k + 1 := by omega
      clear hi hv
      go_enter Try.func41, Try.ntmps41
      go_wp2_with (first
        | (go_at_call 39; refine (Groups_any _ _).mono ?_; rintro e w1 ⟨⟨v, rfl, hown⟩, hb⟩; have hrd := Rd.of_owns hown (by omega); obtain ⟨a, c, rfl⟩ := hrd.form)
        | (go_at_call 83; refine (concat_next f w1 _ _ hrd).mono ?_; rintro e w2 ⟨⟨b, off, cap, rfl, hr2, hc2⟩, hb2⟩; have hck := hc2 (k + 1) hk; rw [HV2.out] at hck; clear hc2)
        | (go_at_call 84; refine (index_any _ _ _ _ hr2).mono ?_; rintro e w3 ⟨rfl, rfl⟩; rw [HI.out]))
      go_ret2
      exact ⟨rfl, hb.trans (hb2.mono hb.size)⟩
  · obtain ⟨_, h2, _⟩ := fmt_no h
    have hE : nextE f g = 3 := by unfold nextE; rw [if_neg (by omega), if_neg (by omega)]
    have hV : nextV f g = 0 := by unfold nextV; rw [if_neg (by omega), if_neg (by omega)]
    rw [hE, hV]; clear hE hV h
    go_enter Try.func41, Try.ntmps41
    go_wp2_with (go_at_call 39; refine (Groups_any _ _).mono ?_; rintro e w' ⟨⟨v, rfl, hown⟩, hb⟩)
    go_ret2
    exact ⟨rfl, hb⟩
end Go.Proofs.Ytcieggaihelacaa
/- The contracts of frame.Corner and of the document's Next, Corner, Place. -/
namespace Go.Proofs.Ytcieggaihelacaa
open Go.RowKit
theorem groups_bd {f g : Int} (h : g ∈ groupsS f) : 1 ≤ g ∧ g ≤ 12 := by
  unfold groupsS at h
  split at h
  · simp at h; omega
  · split at h
    · simp at h; omega
    · simp at h
theorem gs_pos {f : Int} (h : f = 0 ∨ f = 1) : 0 < (groupsS f).length := by rcases h with rfl | rfl <;> decide
theorem idx_mem (x : Int) (xs : List Int) : (0 ≤ idxI x xs) = (x ∈ xs) := by
  unfold idxI
  by_cases h : x ∈ xs <;> simp [h]
theorem rnext_tells (f g : Int) (h : f = 0 ∨ f = 1) (h0 : g ≠ 0) :
    (nextE f g = 8 ∧ nextV f g = 0 ∧ g ∉ groupsS f ∧ ∀ j, j < (groupsS f).length → (groupsS f)[j]?.getD 0 ≠ g) ∨
    (nextE f g = 0 ∧ g ∈ groupsS f ∧ ∃ k : Nat, k < (groupsS f).length ∧ (groupsS f)[k]?.getD 0 = g ∧ (∀ j, j < k → (groupsS f)[j]?.getD 0 ≠ g) ∧ ((k + 1 = (groupsS f).length ∧ nextV f g = 0) ∨ (k + 1 < (groupsS f).length ∧ (groupsS f)[k + 1]?.getD 0 = nextV f g))) := by
  by_cases hm : g ∈ groupsS f
  · right
    rcases h with rfl | rfl
    · have hc : g = 1 ∨ g = 3 ∨ g = 5 := by simpa [groupsS] using hm
      rcases hc with rfl | rfl | rfl
      · exact ⟨by decide, hm, 0, by decide, by decide, by decide, by decide⟩
      · exact ⟨by decide, hm, 1, by decide, by decide, by decide, by decide⟩
      · exact ⟨by decide, hm, 2, by decide, by decide, by decide, by decide⟩
    · have hc : g = 1 ∨ g = 2 ∨ g = 3 ∨ g = 4 ∨ g = 5 ∨ g = 6 ∨ g = 7 ∨ g = 8 ∨ g = 9 ∨ g = 10 ∨ g = 11 ∨ g = 12 := by simpa [groupsS] using hm
      rcases hc with rfl | rfl | rfl | rfl | rfl | rfl | rfl | rfl | rfl | rfl | rfl | rfl
      · exact ⟨by decide, hm, 0, by decide, by decide, by decide, by decide⟩
      · exact ⟨by decide, hm, 1, by decide, by decide, by decide, by decide⟩
      · exact ⟨by decide, hm, 2, by decide, by decide, by decide, by decide⟩
      · exact ⟨by decide, hm, 3, by decide, by decide, by decide, by decide⟩
      · exact ⟨by decide, hm, 4, by decide, by decide, by decide, by decide⟩
      · exact ⟨by decide, hm, 5, by decide, by decide, by decide, by decide⟩
      · exact ⟨by decide, hm, 6, by decide, by decide, by decide, by decide⟩
      · exact ⟨by decide, hm, 7, by decide, by decide, by decide, by decide⟩
      · exact ⟨by decide, hm, 8, by decide, by decide, by decide, by decide⟩
      · exact ⟨by decide, hm, 9, by decide, by decide, by decide, by decide⟩
      · exact ⟨by decide, hm, 10, by decide, by decide, by decide, by decide⟩
      · exact ⟨by decide, hm, 11, by decide, by decide, by decide, by decide⟩
  · left
    have hn : ∀ j, j < (groupsS f).length → (groupsS f)[j]?.getD 0 ≠ g := fun j hj e => hm (by
      rw [← e]; simp [hj])
    rcases h with rfl | rfl
    · have hm' := hm
      simp [groupsS] at hm'
      exact ⟨by simp [nextE]; omega, by simp [nextV]; omega, hm, hn⟩
    · have hm' := hm
      simp [groupsS] at hm'
      exact ⟨by simp [nextE]; omega, by simp [nextV]; omega, hm, hn⟩
set_option maxRecDepth 100000 in
set_option maxHeartbeats 1000000 in
theorem rNext_any (f g : Int) (w : World) :
    Calls Try.prog 42 #[.int .i64 f, .int .i64 g] w fun e w' => e = .returned (.tuple #[.int .i64 (nextV f g), .int .i64 (nextE f g)]) ∧ Below w.heap.size w w' := by
  by_cases h : f = 0 ∨ f = 1
  · obtain ⟨_, h2⟩ := fmt_yes h
    have hl := gs_len f
    have hp := gs_pos h
    by_cases h0 : g = 0
    · subst h0
      have hV : nextV f 0 = 1 := by rcases h with rfl | rfl <;> decide
      have hE : nextE f 0 = 0 := by rcases h with rfl | rfl <;> decide
      rw [hV, hE]; clear hV hE
      go_enter Try.func42, Try.ntmps42
      go_wp2_with (go_at_call 40; refine (rGroups_any _ _).mono ?_; rintro e w1 ⟨⟨v, rfl, hown⟩, hb⟩; have hrd := Rd.of_owns hown (by omega); obtain ⟨a, c, rfl⟩ := hrd.form)
      go_ret2
      exact ⟨rfl, hb⟩
    · have ht := rnext_tells f g h h0
      have hg0 : (g == 0) = false := by simpa using h0
      generalize hE : nextE f g = E at ht
      generalize hV : nextV f g = V at ht
      clear hE hV h0 h
      rcases ht with ⟨rfl, rfl, _, hn⟩ | ⟨rfl, _, k0, hk0, hx0, hn, hv⟩
      · have HN := Lib.hid hn
        clear hn
        go_enter Try.func42, Try.ntmps42
        go_wp2_with (go_at_call 40; refine (rGroups_any _ _).mono ?_; rintro e w1 ⟨⟨v, rfl, hown⟩, hb⟩; have hrd := Rd.of_owns hown (by omega); obtain ⟨b, off, cap, rfl, _, hcap, hc⟩ := hrd.solid hp; clear hown hrd)
        go_loop [8] (fun i => ∃ k : Nat, k ≤ (groupsS f).length ∧ i = .int .i64 k) (fun i => (groupsS f).length - (intOf i).toNat)
        case atStart => exact ⟨0, by omega, rfl⟩
        case round =>
          obtain ⟨k, hk, rfl⟩ := hrel
          by_cases hlt : k < (groupsS f).length
          · have hkl : (k : Int) < ((groupsS f).length : Int) := by omega
            have hck := hc k hlt
            have hne := HN.out k (by omega)
            generalize (groupsS f)[k]?.getD 0 = y at hck hne
            have hy : (y == g) = false := by simpa using hne
            clear hne hc
            go_wp2
            go_round
            case rel => exact ⟨k + 1, by omega, by go_num⟩
            case measure => simp [intOf]; omega
          · go_wp2
            go_ret2
            exact ⟨rfl, hb⟩
      · have HN := Lib.hid hn
        have HX := Lib.hid hx0
        clear hn hx0
        go_enter Try.func42, Try.ntmps42
        go_wp2_with (go_at_call 40; refine (rGroups_any _ _).mono ?_; rintro e w1 ⟨⟨v, rfl, hown⟩, hb⟩; have hrd := Rd.of_owns hown (by omega); obtain ⟨b, off, cap, rfl, _, hcap, hc⟩ := hrd.solid hp; clear hown hrd)
        go_loop [8] (fun i => ∃ k : Nat, k ≤ k0 ∧ i = .int .i64 k) (fun i => k0 + 1 - (intOf i).toNat)
        case atStart => exact ⟨0, by omega, rfl⟩
        case round =>
          obtain ⟨k, hk, rfl⟩ := hrel
          have hkl : (k : Int) < ((groupsS f).length : Int) := by omega
          by_cases hlt0 : k < k0
          · have hlt : k < (groupsS f).length := by omega
            have hck := hc k hlt
            have hne := HN.out k (by omega)
            generalize (groupsS f)[k]?.getD 0 = y at hck hne
            have hy : (y == g) = false := by simpa using hne
            clear hne hc
            go_wp2
            go_round
            case rel => exact ⟨k + 1, by omega, by go_num⟩
            case measure => simp [intOf]; omega
          · have e : k = k0 := by omega
            subst e
            have hck := hc k hk0
            rw [HX.out] at hck
            rcases hv with ⟨he, rfl⟩ | ⟨he, hve⟩
            · have ht : ((k : Int) == ((groupsS f).length : Int) - 1) = true := by simp; omega
              clear hc he
              go_wp2
              go_ret2
              exact ⟨rfl, hb⟩
            · have ht : ((k : Int) == ((groupsS f).length : Int) - 1) = false := by simp; omega
              have hck2 := hc (k + 1) he
              rw [hve] at hck2
              have hkt : ((k : Int) + 1).toNat = k + 1 := by omega
              have hkb : (k : Int) + 1 < ((groupsS f).length : Int) := by omega
              clear hc he hve
              go_wp2
              go_ret2
              exact ⟨rfl, hb⟩
  · obtain ⟨_, h2, _⟩ := fmt_no h
    have hE : nextE f g = 3 := by unfold nextE; rw [if_neg (by omega), if_neg (by omega)]
    have hV : nextV f g = 0 := by unfold nextV; rw [if_neg (by omega), if_neg (by omega)]
    rw [hE, hV]; clear hE hV h
    go_enter Try.func42, Try.ntmps42
    go_wp2_with (go_at_call 40; refine (rGroups_any _ _).mono ?_; rintro e w' ⟨⟨v, rfl, hown⟩, hb⟩)
    go_ret2
    exact ⟨rfl, hb⟩
end Go.Proofs.Ytcieggaihelacaa
/- The contracts of frame.Corner and of the document's Corner and Place. -/
namespace Go.Proofs.Ytcieggaihelacaa
open Go.RowKit
def cornE (f g a : Int) : Int := if f = 0 ∨ f = 1 then (if g ∈ groupsS f then (if 1 ≤ a ∧ a ≤ 33 then 0 else 13) else 8) else 3
def cornX (f g a : Int) : Int := if cornE f g a = 0 then cornerX f g a else 0
def cornY (f g a : Int) : Int := if cornE f g a = 0 then cornerY g a else 0
theorem corn_cases (f g a : Int) :
    (¬ (f = 0 ∨ f = 1) ∧ cornE f g a = 3 ∧ cornX f g a = 0 ∧ cornY f g a = 0) ∨
    ((f = 0 ∨ f = 1) ∧ g ∉ groupsS f ∧ cornE f g a = 8 ∧ cornX f g a = 0 ∧ cornY f g a = 0) ∨
    ((f = 0 ∨ f = 1) ∧ g ∈ groupsS f ∧ ¬ (1 ≤ a ∧ a ≤ 33) ∧ cornE f g a = 13 ∧ cornX f g a = 0 ∧ cornY f g a = 0) ∨
    ((f = 0 ∨ f = 1) ∧ g ∈ groupsS f ∧ (1 ≤ a ∧ a ≤ 33) ∧ cornE f g a = 0 ∧ cornX f g a = cornerX f g a ∧ cornY f g a = cornerY g a) := by
  unfold cornX cornY
  by_cases h1 : f = 0 ∨ f = 1
  · by_cases h2 : g ∈ groupsS f
    · by_cases h3 : 1 ≤ a ∧ a ≤ 33
      · have e : cornE f g a = 0 := by unfold cornE; rw [if_pos h1, if_pos h2, if_pos h3]
        rw [e]; exact Or.inr (Or.inr (Or.inr ⟨h1, h2, h3, rfl, rfl, rfl⟩))
      · have e : cornE f g a = 13 := by unfold cornE; rw [if_pos h1, if_pos h2, if_neg h3]
        rw [e]; exact Or.inr (Or.inr (Or.inl ⟨h1, h2, h3, rfl, rfl, rfl⟩))
    · have e : cornE f g a = 8 := by unfold cornE; rw [if_pos h1, if_neg h2]
      rw [e]; exact Or.inr (Or.inl ⟨h1, h2, rfl, rfl, rfl⟩)
  · have e : cornE f g a = 3 := by unfold cornE; rw [if_neg h1]
    rw [e]; exact Or.inl ⟨h1, rfl, rfl, rfl⟩
set_option maxRecDepth 100000 in
set_option maxHeartbeats 1000000 in
theorem Corner_any (f g a : Int) (w : World) (ha : -9223372036854775808 ≤ a) (ha2 : a ≤ 9223372036854775807) :
    Calls Try.prog 46 #[.int .i64 f, .int .i64 g, .int .i64 a] w fun e w' => e = .returned (.tuple #[.int .i64 (cornX f g a), .int .i64 (cornY f g a), .int .i64 (cornE f g a)]) ∧ Below w.heap.size w w' := by
  have hl := gs_len f
  rcases corn_cases f g a with ⟨h, e1, e2, e3⟩ | ⟨h, hg, e1, e2, e3⟩ | ⟨h, hg, h3, e1, e2, e3⟩ | ⟨h, hg, h3, e1, e2, e3⟩
  · rw [e1, e2, e3]; clear e1 e2 e3
    obtain ⟨_, h2, _⟩ := fmt_no h
    clear h
    go_enter Try.func46, Try.ntmps46
    go_wp2_with (go_at_call 39; refine (Groups_any _ _).mono ?_; rintro e w1 ⟨⟨v, rfl, hown⟩, hb⟩)
    exact bodyPost_ret (by simp [results, Try.results46, go_sem]) rfl ⟨rfl, hb⟩
  · rw [e1, e2, e3]; clear e1 e2 e3
    obtain ⟨_, h2⟩ := fmt_yes h
    rw [← idx_mem] at hg
    have ht : decide (0 ≤ idxI g (groupsS f)) = false := by simpa using hg
    clear h hg
    go_enter Try.func46, Try.ntmps46
    go_wp2_with (first
      | (go_at_call 39; refine (Groups_any _ _).mono ?_; rintro e w1 ⟨⟨v, rfl, hown⟩, hb⟩; have hrd := Rd.of_owns hown (by omega))
      | (go_at_call 85; refine (contains_any _ _ _ _ hrd).mono ?_; rintro e w2 ⟨rfl, rfl⟩))
    exact bodyPost_ret (by simp [results, Try.results46, go_sem]) rfl ⟨rfl, hb⟩
  · rw [e1, e2, e3]; clear e1 e2 e3
    obtain ⟨_, h2⟩ := fmt_yes h
    rw [← idx_mem] at hg
    have ht : decide (0 ≤ idxI g (groupsS f)) = true := by simpa using hg
    clear h hg
    by_cases h5 : a < 1
    · clear h3
      go_enter Try.func46, Try.ntmps46
      go_wp2_with (first
        | (go_at_call 39; refine (Groups_any _ _).mono ?_; rintro e w1 ⟨⟨v, rfl, hown⟩, hb⟩; have hrd := Rd.of_owns hown (by omega))
        | (go_at_call 85; refine (contains_any _ _ _ _ hrd).mono ?_; rintro e w2 ⟨rfl, rfl⟩))
      exact bodyPost_ret (by simp [results, Try.results46, go_sem]) rfl ⟨rfl, hb⟩
    · have h6 : 33 < a := by omega
      clear h3
      go_enter Try.func46, Try.ntmps46
      go_wp2_with (first
        | (go_at_call 39; refine (Groups_any _ _).mono ?_; rintro e w1 ⟨⟨v, rfl, hown⟩, hb⟩; have hrd := Rd.of_owns hown (by omega))
        | (go_at_call 85; refine (contains_any _ _ _ _ hrd).mono ?_; rintro e w2 ⟨rfl, rfl⟩))
      exact bodyPost_ret (by simp [results, Try.results46, go_sem]) rfl ⟨rfl, hb⟩
  · rw [e1, e2, e3]; clear e1 e2 e3
    obtain ⟨_, h2⟩ := fmt_yes h
    obtain ⟨g1, g2⟩ := groups_bd hg
    rw [← idx_mem] at hg
    have ht : decide (0 ≤ idxI g (groupsS f)) = true := by simpa using hg
    obtain ⟨h3, h4⟩ := h3
    have HF := Lib.hid h
    clear h hg
    go_enter Try.func46, Try.ntmps46
    go_wp2_with (first
      | (go_at_call 39; refine (Groups_any _ _).mono ?_; rintro e w1 ⟨⟨v, rfl, hown⟩, hb⟩; have hrd := Rd.of_owns hown (by omega))
      | (go_at_call 85; refine (contains_any _ _ _ _ hrd).mono ?_; rintro e w2 ⟨rfl, rfl⟩)
      | (go_at_call 86; refine (fcorner_any f g a _ HF.out g1 g2 h3 h4).mono ?_; rintro e w2 ⟨rfl, rfl⟩))
    exact bodyPost_ret (by simp [results, Try.results46, go_sem]) rfl ⟨rfl, hb⟩
theorem next_mem {f g : Int} (h : f = 0 ∨ f = 1) : (g = 0 ∧ nextE f g = 0 ∧ g ∉ groupsS f) ∨ (g ≠ 0 ∧ nextE f g = 0 ∧ g ∈ groupsS f) ∨ (g ≠ 0 ∧ nextE f g = 8 ∧ g ∉ groupsS f) := by
  by_cases h0 : g = 0
  · subst h0
    left
    rcases h with rfl | rfl <;> decide
  · rcases rnext_tells f g h h0 with ⟨a, _, b, _⟩ | ⟨a, b, _⟩
    · exact Or.inr (Or.inr ⟨h0, a, b⟩)
    · exact Or.inr (Or.inl ⟨h0, a, b⟩)
set_option maxRecDepth 100000 in
set_option maxHeartbeats 1000000 in
theorem rCorner_any (f g a : Int) (w : World) (ha : -9223372036854775808 ≤ a) (ha2 : a ≤ 9223372036854775807) :
    Calls Try.prog 47 #[.int .i64 f, .int .i64 g, .int .i64 a] w fun e w' => e = .returned (.tuple #[.int .i64 (cornX f g a), .int .i64 (cornY f g a), .int .i64 (cornE f g a)]) ∧ Below w.heap.size w w' := by
  rcases corn_cases f g a with ⟨h, e1, e2, e3⟩ | ⟨h, hg, e1, e2, e3⟩ | ⟨h, hg, h3, e1, e2, e3⟩ | ⟨h, hg, h3, e1, e2, e3⟩
  · rw [e1, e2, e3]; clear e1 e2 e3
    have hE : nextE f g = 3 := by unfold nextE; rw [if_neg (by omega), if_neg (by omega)]
    clear h
    go_enter Try.func47, Try.ntmps47
    go_wp2_with (go_at_call 42; refine (rNext_any _ _ _).mono ?_; rintro e w1 ⟨rfl, hb⟩)
    exact bodyPost_ret (by simp [results, Try.results47, go_sem]) rfl ⟨rfl, hb⟩
  · rw [e1, e2, e3]; clear e1 e2 e3
    rcases next_mem (g := g) h with ⟨rfl, hE, _⟩ | ⟨_, _, hm⟩ | ⟨h0, hE, _⟩
    · clear h hg
      go_enter Try.func47, Try.ntmps47
      go_wp2_with (go_at_call 42; refine (rNext_any _ _ _).mono ?_; rintro e w1 ⟨rfl, hb⟩)
      exact bodyPost_ret (by simp [results, Try.results47, go_sem]) rfl ⟨rfl, hb⟩
    · exact absurd hm hg
    · clear h hg
      go_enter Try.func47, Try.ntmps47
      go_wp2_with (go_at_call 42; refine (rNext_any _ _ _).mono ?_; rintro e w1 ⟨rfl, hb⟩)
      exact bodyPost_ret (by simp [results, Try.results47, go_sem]) rfl ⟨rfl, hb⟩
  · rw [e1, e2, e3]; clear e1 e2 e3
    rcases next_mem (g := g) h with ⟨rfl, _, hm⟩ | ⟨h0, hE, hm⟩ | ⟨h0, _, hm⟩
    · exact absurd hg hm
    · have h0' : (g == 0) = false := by simpa using h0
      clear h hg hm h0
      by_cases h5 : a < 1
      · clear h3
        go_enter Try.func47, Try.ntmps47
        go_wp2_with (go_at_call 42; refine (rNext_any _ _ _).mono ?_; rintro e w1 ⟨rfl, hb⟩)
        exact bodyPost_ret (by simp [results, Try.results47, go_sem]) rfl ⟨rfl, hb⟩
      · have h6 : 33 < a := by omega
        clear h3
        go_enter Try.func47, Try.ntmps47
        go_wp2_with (go_at_call 42; refine (rNext_any _ _ _).mono ?_; rintro e w1 ⟨rfl, hb⟩)
        exact bodyPost_ret (by simp [results, Try.results47, go_sem]) rfl ⟨rfl, hb⟩
    · exact absurd hg hm
  · rw [e1, e2, e3]; clear e1 e2 e3
    obtain ⟨g1, g2⟩ := groups_bd hg
    obtain ⟨h3, h4⟩ := h3
    unfold cornerX cornerY
    rcases next_mem (g := g) h with ⟨rfl, _, hm⟩ | ⟨h0, hE, hm⟩ | ⟨h0, _, hm⟩
    · exact absurd hg hm
    · have h0' : (g == 0) = false := by simpa using h0
      clear hg hm h0
      rcases h with rfl | rfl
      · rw [Int.zero_mul, Int.add_zero]
        go_enter Try.func47, Try.ntmps47
        go_wp2_with (go_at_call 42; refine (rNext_any _ _ _).mono ?_; rintro e w1 ⟨rfl, hb⟩)
        exact bodyPost_ret (by simp [results, Try.results47, go_sem]) rfl ⟨rfl, hb⟩
      · rw [Int.one_mul]
        go_enter Try.func47, Try.ntmps47
        go_wp2_with (go_at_call 42; refine (rNext_any _ _ _).mono ?_; rintro e w1 ⟨rfl, hb⟩)
        exact bodyPost_ret (by simp [results, Try.results47, go_sem]) rfl ⟨rfl, hb⟩
    · exact absurd hg hm
end Go.Proofs.Ytcieggaihelacaa
/- The contract of the document's Place; the plain functions that tell a block's place. -/
namespace Go.Proofs.Ytcieggaihelacaa
open Go.RowKit
def plcV (f X Y b : Int) : Int := if b ≤ 4 then (Y + (b - 1) / 2 * 8) * wideS f + X + (b - 1) % 2 * 8 else wideS f * highS f + (b - 5) * (wideS f * highS f / 4) + Y / 2 * (wideS f / 2) + X / 2
def plcS (f b : Int) : Int := if b ≤ 4 then wideS f else wideS f / 2
def plE (f g a b : Int) : Int := if cornE f g a = 0 then (if 1 ≤ b ∧ b ≤ 6 then 0 else 3) else cornE f g a
def plA (f g a b : Int) : Int := if plE f g a b = 0 then plcV f (cornerX f g a) (cornerY g a) b else 0
def plS (f g a b : Int) : Int := if plE f g a b = 0 then plcS f b else 0
theorem corner_bd {f g a : Int} (h : f = 0 ∨ f = 1) (hg : g ∈ groupsS f) (ha : 1 ≤ a ∧ a ≤ 33) : 0 ≤ cornerX f g a ∧ cornerX f g a + 16 ≤ wideS f ∧ 0 ≤ cornerY g a ∧ cornerY g a + 16 ≤ highS f := by
  obtain ⟨g1, g2⟩ := groups_bd hg
  unfold cornerX cornerY
  rcases h with rfl | rfl
  · have hc : g = 1 ∨ g = 3 ∨ g = 5 := by simpa [groupsS] using hg
    have w : wideS 0 = 176 := rfl
    have h : highS 0 = 144 := rfl
    rw [w, h]
    omega
  · have w : wideS 1 = 352 := rfl
    have h : highS 1 = 288 := rfl
    rw [w, h]
    omega
theorem pl_cases (f g a b : Int) :
    (plE f g a b ≠ 0 ∧ cornE f g a ≠ 0 ∧ plE f g a b = cornE f g a ∧ plA f g a b = 0 ∧ plS f g a b = 0) ∨
    (cornE f g a = 0 ∧ ¬ (1 ≤ b ∧ b ≤ 6) ∧ plE f g a b = 3 ∧ plA f g a b = 0 ∧ plS f g a b = 0) ∨
    (cornE f g a = 0 ∧ (1 ≤ b ∧ b ≤ 6) ∧ plE f g a b = 0 ∧ plA f g a b = plcV f (cornerX f g a) (cornerY g a) b ∧ plS f g a b = plcS f b) := by
  unfold plA plS
  by_cases h1 : cornE f g a = 0
  · by_cases h2 : 1 ≤ b ∧ b ≤ 6
    · have e : plE f g a b = 0 := by unfold plE; rw [if_pos h1, if_pos h2]
      rw [e]; exact Or.inr (Or.inr ⟨h1, h2, rfl, rfl, rfl⟩)
    · have e : plE f g a b = 3 := by unfold plE; rw [if_pos h1, if_neg h2]
      rw [e]; exact Or.inr (Or.inl ⟨h1, h2, rfl, rfl, rfl⟩)
  · have e : plE f g a b = cornE f g a := by unfold plE; rw [if_neg h1]
    rw [e, if_neg h1, if_neg h1]; exact Or.inl ⟨h1, h1, rfl, rfl, rfl⟩
theorem corn_ok {f g a : Int} (h : cornE f g a = 0) : (f = 0 ∨ f = 1) ∧ g ∈ groupsS f ∧ (1 ≤ a ∧ a ≤ 33) ∧ cornX f g a = cornerX f g a ∧ cornY f g a = cornerY g a := by
  rcases corn_cases f g a with ⟨_, e, _⟩ | ⟨_, _, e, _⟩ | ⟨_, _, _, e, _⟩ | ⟨h1, h2, h3, e, h4, h5⟩
  · rw [h] at e; cases e
  · rw [h] at e; cases e
  · rw [h] at e; cases e
  · exact ⟨h1, h2, h3, h4, h5⟩
set_option maxRecDepth 100000 in
set_option maxHeartbeats 1000000 in
theorem rPlace_any (f g a b : Int) (w : World) (ha : -9223372036854775808 ≤ a) (ha2 : a ≤ 9223372036854775807) :
    Calls Try.prog 49 #[.int .i64 f, .int .i64 g, .int .i64 a, .int .i64 b] w fun e w' => e = .returned (.tuple #[.int .i64 (plA f g a b), .int .i64 (plS f g a b), .int .i64 (plE f g a b)]) ∧ Below w.heap.size w w' := by
  rcases pl_cases f g a b with ⟨_, hc, e1, e2, e3⟩ | ⟨hc, hb, e1, e2, e3⟩ | ⟨hc, hb, e1, e2, e3⟩
  · rw [e1, e2, e3]; clear e1 e2 e3
    have ht : (cornE f g a != 0) = true := by simpa using hc
    clear hc
    go_enter Try.func49, Try.ntmps49
    go_wp2_with (go_at_call 47; refine (rCorner_any _ _ _ _ ha ha2).mono ?_; rintro e w1 ⟨rfl, hb⟩)
    exact bodyPost_ret (by simp [results, Try.results49, go_sem]) rfl ⟨rfl, hb⟩
  · rw [e1, e2, e3]; clear e1 e2 e3
    by_cases h1 : b < 1
    · clear hb
      go_enter Try.func49, Try.ntmps49
      go_wp2_with (first
        | (go_at_call 47; refine (rCorner_any _ _ _ _ ha ha2).mono ?_; rintro e w1 ⟨rfl, hb⟩)
        | (go_at_call 38; refine (rsize_any _ _).mono ?_; rintro e w2 ⟨rfl, rfl⟩))
      exact bodyPost_ret (by simp [results, Try.results49, go_sem]) rfl ⟨rfl, hb⟩
    · have h2 : 6 < b := by omega
      clear hb
      go_enter Try.func49, Try.ntmps49
      go_wp2_with (first
        | (go_at_call 47; refine (rCorner_any _ _ _ _ ha ha2).mono ?_; rintro e w1 ⟨rfl, hb⟩)
        | (go_at_call 38; refine (rsize_any _ _).mono ?_; rintro e w2 ⟨rfl, rfl⟩))
      exact bodyPost_ret (by simp [results, Try.results49, go_sem]) rfl ⟨rfl, hb⟩
  · rw [e1, e2, e3]; clear e1 e2 e3
    obtain ⟨hf, hg, ha3, hX, hY⟩ := corn_ok hc
    obtain ⟨x0, x1, y0, y1⟩ := corner_bd hf hg ha3
    obtain ⟨b1, b2⟩ := hb
    generalize cornerX f g a = X at *
    generalize cornerY g a = Y at *
    clear ha3 hg
    by_cases h4 : b ≤ 4
    · have hV : plcV f X Y b = (Y + (b - 1) / 2 * 8) * wideS f + X + (b - 1) % 2 * 8 := by unfold plcV; rw [if_pos h4]
      have hS : plcS f b = wideS f := by unfold plcS; rw [if_pos h4]
      rw [hV, hS]; clear hV hS
      rcases hf with rfl | rfl
      · have hw : wideS 0 = 176 := rfl
        have hh : highS 0 = 144 := rfl
        rw [hw] at x1; rw [hh] at y1; simp only [hw]
        go_enter Try.func49, Try.ntmps49
        go_wp2_with (first
          | (go_at_call 47; refine (rCorner_any _ _ _ _ ha ha2).mono ?_; rintro e w1 ⟨rfl, hb⟩)
          | (go_at_call 38; refine (rsize_any _ _).mono ?_; rintro e w2 ⟨rfl, rfl⟩))
        exact bodyPost_ret (by simp [results, Try.results49, go_sem]) rfl ⟨rfl, hb⟩
      · have hw : wideS 1 = 352 := rfl
        have hh : highS 1 = 288 := rfl
        rw [hw] at x1; rw [hh] at y1; simp only [hw]
        go_enter Try.func49, Try.ntmps49
        go_wp2_with (first
          | (go_at_call 47; refine (rCorner_any _ _ _ _ ha ha2).mono ?_; rintro e w1 ⟨rfl, hb⟩)
          | (go_at_call 38; refine (rsize_any _ _).mono ?_; rintro e w2 ⟨rfl, rfl⟩))
        exact bodyPost_ret (by simp [results, Try.results49, go_sem]) rfl ⟨rfl, hb⟩
    · have hV : plcV f X Y b = wideS f * highS f + (b - 5) * (wideS f * highS f / 4) + Y / 2 * (wideS f / 2) + X / 2 := by unfold plcV; rw [if_neg h4]
      have hS : plcS f b = wideS f / 2 := by unfold plcS; rw [if_neg h4]
      rw [hV, hS]; clear hV hS
      rcases hf with rfl | rfl
      · have hw : wideS 0 = 176 := rfl
        have hh : highS 0 = 144 := rfl
        rw [hw] at x1; rw [hh] at y1; simp only [hw, hh]
        go_enter Try.func49, Try.ntmps49
        go_wp2_with (first
          | (go_at_call 47; refine (rCorner_any _ _ _ _ ha ha2).mono ?_; rintro e w1 ⟨rfl, hb⟩)
          | (go_at_call 38; refine (rsize_any _ _).mono ?_; rintro e w2 ⟨rfl, rfl⟩))
        exact bodyPost_ret (by simp [results, Try.results49, go_sem]) rfl ⟨rfl, hb⟩
      · have hw : wideS 1 = 352 := rfl
        have hh : highS 1 = 288 := rfl
        rw [hw] at x1; rw [hh] at y1; simp only [hw, hh]
        go_enter Try.func49, Try.ntmps49
        go_wp2_with (first
          | (go_at_call 47; refine (rCorner_any _ _ _ _ ha ha2).mono ?_; rintro e w1 ⟨rfl, hb⟩)
          | (go_at_call 38; refine (rsize_any _ _).mono ?_; rintro e w2 ⟨rfl, rfl⟩))
        exact bodyPost_ret (by simp [results, Try.results49, go_sem]) rfl ⟨rfl, hb⟩
end Go.Proofs.Ytcieggaihelacaa
