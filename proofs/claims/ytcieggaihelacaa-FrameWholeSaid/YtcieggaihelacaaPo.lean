/- Layer 16's statements: awake; PaintAdds, walked. -/
import Derived.Test.YtcieggaihelacaaPn
import Derived.Test.YtcieggaihelacaaMor
set_option linter.unusedSimpArgs false
set_option linter.unusedVariables false
namespace Go.Proofs.Ytcieggaihelacaa
open Go.RowKit
set_option maxRecDepth 100000
theorem owns_apart {w w' : World} {base size n : Nat} {e : TypeId} {v : Value} {xs : List Value} {row : Option Nat} (h : w.ownsRow base e size v n xs) (hg : w.grownBy w' row) (hne : ∀ b, v.ownBlock = some b → row ≠ some b) : w'.ownsRow base e size v n xs :=
  h.kept hg (by
    by_cases hn : v.ownBlock = none
    · exact .inl hn
    · obtain ⟨b, hb⟩ := Option.ne_none_iff_exists'.1 hn
      exact .inr (fun e => hne b hb (e.symm.trans hb)))
theorem qcif16_any (g a : Int) (w : World) :
    Calls Try.prog 70 #[.int .i64 g, .int .i64 a] w fun e w' => e = .returned (.agg #[.int .i64 0, .int .i64 g, .int .i64 a]) ∧ Below w.heap.size w w' := by
  go_enter Try.func70, Try.ntmps70
  go_wp2
  exact bodyPost_ret (v := .agg #[.int .i64 0, .int .i64 g, .int .i64 a]) (by simp [results, Try.results70, go_sem]) rfl ⟨rfl, (Below.refl w.heap.size w).alloc (Nat.le_refl _) _⟩
theorem awake16_any (w : World) : Calls Try.prog 55 #[] w fun e w' => e = .returned (.bool true) ∧ Below w.heap.size w w' := by
  have c1 : clipS (-5) = 0 ∧ clipS 300 = 255 ∧ clipS 77 = 77 := by decide
  have c2 : cpE 0 2 1 0 ([] : List Int).length = 8 := by decide
  have HC := Lib.hid c1
  have HE := Lib.hid c2
  have hb := Below.refl w.heap.size w
  clear c1 c2
  go_enter Try.func55, Try.ntmps55
  go_wp2_with (first
    | (go_at_call 62; refine (clip_any _ _).mono ?_; (first | rw [HC.out.1] | rw [HC.out.2.1] | rw [HC.out.2.2]); rintro e w' ⟨rfl, rfl⟩)
    | (go_at_call 88; refine (adds_true _ _ _ _ (by decide) (by decide) (by decide)).mono ?_; rintro e w1 ⟨rfl, hb'⟩; replace hb := below_nxt hb hb'; clear hb')
    | (go_at_call 70; refine (qcif16_any _ _ _).mono ?_; rintro e w1 ⟨rfl, hb'⟩; replace hb := below_nxt hb hb'; clear hb')
    | (go_at_call 56; refine (copy_bad 0 2 1 none 0 0 (.slice none 0 0) [] _ (.inl ⟨rfl, rfl⟩) (by decide) (by decide) (by decide) (by rw [HE.out]; decide)).mono ?_; rw [HE.out]; rintro e w2 ⟨rfl, hb'⟩; replace hb := below_nxt hb hb'; clear hb'))
  go_ret
  exact ⟨rfl, hb⟩
theorem awake_le (w : World) {w' : World} (h : Below w.heap.size w w') (e : Ending) (he : e = .returned (.bool true)) : e = .returned (.bool true) ∧ Below w.heap.size w w' := ⟨he, h⟩
theorem addL_le (xs ys : List Int) : (addL xs ys).length ≤ 64 := by
  unfold addL; split
  · rename_i h
    unfold addE at h
    split at h
    · rename_i h1
      unfold addZ; rw [List.length_zipWith]; omega
    · cases h
  · simp
/-- Lists that are too long: nothing is said. -/
theorem paintAdds_long (va ua : Option Addr) (n m cv cu : Nat) (x : Int) (w : World) (hn : n ≤ 9223372036854775807) (hm : m ≤ 9223372036854775807) (h : 80 < n ∨ 80 < m) :
    Calls Try.prog 14 #[.slice va n cv, .slice ua m cu, .int .i64 x] w fun e w' => e = .returned (.bool true) ∧ Below w.heap.size w w' := by
  have key : decide (80 < (n : Int)) = true ∨ (decide (80 < (n : Int)) = false ∧ decide (80 < (m : Int)) = true) := by
    by_cases h1 : 80 < n
    · exact .inl (by simp; omega)
    · exact .inr ⟨by simp; omega, by simp; omega⟩
  rcases key with k1 | ⟨k1, k2⟩
  all_goals
    go_enter Try.func14, Try.ntmps14
    go_wp2_with (go_at_call 55; refine (awake16_any _).mono ?_; rintro e w1 ⟨rfl, hb⟩)
    go_ret
    exact ⟨rfl, hb⟩
set_option maxHeartbeats 4000000 in
theorem paintAdds_short (v u : Value) (xs ys : List Int) (x : Int) (w : World) (h : Rd .u8 w v xs) (hb : byt xs) (g : Rd .i64 w u ys) (hx : xs.length ≤ 80) (hy : ys.length ≤ 80) :
    Calls Try.prog 14 #[v, u, .int .i64 x] w fun e w' => e = .returned (.bool true) ∧ Below w.heap.size w w' := by
  have hh := h
  have hg := g
  obtain ⟨va, vc, rfl⟩ := h.form
  obtain ⟨ua, uc, rfl⟩ := g.form
  obtain ⟨n, hn⟩ : ∃ n, xs.length = n := ⟨_, rfl⟩
  obtain ⟨m, hm⟩ : ∃ m, ys.length = m := ⟨_, rfl⟩
  have HN := Lib.hid hn
  have HM := Lib.hid hm
  have HBY := Lib.hid hb
  rw [hn] at hh hx ⊢
  rw [hm] at hg hy ⊢
  have HV := Lib.hid hh
  have HG := Lib.hid hg
  have hx' : ¬ 80 < (n : Int) := by omega
  have hy' : ¬ 80 < (m : Int) := by omega
  have hal := addL_le xs ys
  have hfl := addL_le zero64 ys
  obtain ⟨A, hA⟩ : ∃ A, addL xs ys = A := ⟨_, rfl⟩
  obtain ⟨B, hB⟩ : ∃ B, addL zero64 ys = B := ⟨_, rfl⟩
  obtain ⟨E, hE⟩ : ∃ E, addE xs.length ys = E := ⟨_, rfl⟩
  obtain ⟨E', hE'⟩ : ∃ E', addE 64 ys = E' := ⟨_, rfl⟩
  rw [hA] at hal
  rw [hB] at hfl
  have HAB := Lib.hid (And.intro hA (And.intro hB (And.intro hE hE')))
  clear h g hh hg hb hn hm hA hB hE hE'
  go_enter Try.func14, Try.ntmps14
  go_wp2_with (first
    | (go_at_call 22; refine (lentBytes_any _ xs _ HV.out (by rw [HN.out]; omega)).mono ?_; rw [HN.out]; rintro e w1 ⟨⟨gl, tl, rfl, hgl, hp1, hmx⟩, hb1⟩; have hr1 := hp1.rd (by rw [HN.out]; omega) (c := n + (4 + tl.length)) (by rw [HN.out]; omega); rw [HN.out] at hr1; have HR1 := Lib.hid hr1; have HP1 := Lib.hid hp1; have HB1 := Lib.hid hb1; clear hp1 hr1 hb1)
    | (go_at_call 57; refine (copyInts_any _ ys _ (HG.out.below HB1.out) (by rw [HM.out]; omega)).mono ?_; rintro e w2 ⟨⟨q, rfl, hq⟩, hb2⟩; have hqr := Rd.of_owns hq (by rw [HM.out]; omega); obtain ⟨qa, qc, rfl⟩ := hqr.form; rw [HM.out] at hqr ⊢; have HQ := Lib.hid hqr; have HB2 := Lib.hid hb2; clear hq hqr hb2)
    | (go_at_call 58; refine (add_any _ _ xs ys _ (HR1.out.below HB2.out) HBY.out HQ.out).mono ?_; rw [HAB.out.1, HAB.out.2.2.1]; rintro e w3 ⟨⟨r3, rfl, ho3⟩, hb3⟩; have HO3 := Lib.hid ho3; have HB3 := Lib.hid hb3; clear ho3 hb3)
    | (go_at_call 59; refine (radd_any _ _ xs ys _ (((HV.out.below HB1.out).below HB2.out).below HB3.out) HBY.out (((HG.out.below HB1.out).below HB2.out).below HB3.out)).mono ?_; rw [HAB.out.1, HAB.out.2.2.1]; rintro e w4 ⟨⟨r4, rfl, ho4⟩, hb4⟩; have HO4 := Lib.hid ho4; have HB4 := Lib.hid hb4; clear ho4 hb4)
    | (go_at_call 60; refine (flat_any _ ys _ ((HQ.out.below HB3.out).below HB4.out)).mono ?_; rw [HAB.out.2.1, HAB.out.2.2.2]; rintro e w5 ⟨⟨r5, rfl, ho5⟩, hb5⟩; have HO5 := Lib.hid ho5; have HB5 := Lib.hid hb5; clear ho5 hb5)
    | (go_at_call 61; refine (rflat_any _ ys _ (((((HG.out.below HB1.out).below HB2.out).below HB3.out).below HB4.out).below HB5.out)).mono ?_; rw [HAB.out.2.1, HAB.out.2.2.2]; rintro e w6 ⟨⟨r6, rfl, ho6⟩, hb6⟩; have HO6 := Lib.hid ho6; have HB6 := Lib.hid hb6; clear ho6 hb6)
    | (go_at_call 25; (with_reducible refine (sameBytes_true r3 r4 A w6 ((((Rd.of_owns HO3.out (by omega)).below HB4.out).below HB5.out).below HB6.out) (((Rd.of_owns HO4.out (by omega)).below HB5.out).below HB6.out)).mono ?_); rintro e w' ⟨rfl, rfl⟩)
    | (go_at_call 25; refine (sameBytes_true r5 r6 B w6 ((Rd.of_owns HO5.out (by omega)).below HB6.out) (Rd.of_owns HO6.out (by omega))).mono ?_; rintro e w' ⟨rfl, rfl⟩)
    | (go_at_call 62; refine (clip_any _ _).mono ?_; rintro e w' ⟨rfl, rfl⟩)
    | (go_at_call 63; refine (rclip_any _ _).mono ?_; rintro e w' ⟨rfl, rfl⟩))
  have s1 := HB1.out.size
  have s2 := HB2.out.size
  have s3 := HB3.out.size
  have s4 := HB4.out.size
  have s5 := HB5.out.size
  have s6 := HB6.out.size
  have R3 := Lib.hid (fun j e => HO3.out.lt j e)
  have R5 := Lib.hid (fun j e => HO5.out.lt j e)
  have O3 := Lib.hid (owns_below (owns_below (owns_below HO3.out HB4.out) HB5.out) HB6.out)
  have O5 := Lib.hid (owns_below HO5.out HB6.out)
  have P6 := Lib.hid (((((HP1.out.below HB2.out).below HB3.out).below HB4.out).below HB5.out).below HB6.out)
  have V6 := Lib.hid ((((((HV.out.below HB1.out).below HB2.out).below HB3.out).below HB4.out).below HB5.out).below HB6.out)
  have G6 := Lib.hid ((((((HG.out.below HB1.out).below HB2.out).below HB3.out).below HB4.out).below HB5.out).below HB6.out)
  have Q6 := Lib.hid ((((HQ.out.below HB3.out).below HB4.out).below HB5.out).below HB6.out)
  have vb : ∀ b, (Value.slice va n vc).ownBlock = some b → b < w.heap.size := fun b hb => HV.out.block b hb
  have ub : ∀ b, (Value.slice ua m uc).ownBlock = some b → b < w.heap.size := fun b hb => HG.out.block b hb
  have qb : ∀ b, (Value.slice qa m qc).ownBlock = some b → b < w2.heap.size := fun b hb => HQ.out.block b hb
  have VB := Lib.hid vb
  have UB := Lib.hid ub
  have QB := Lib.hid qb
  have hgl1 := HP1.out.lt
  have B6 := Lib.hid (below_nxt (below_nxt (below_nxt (below_nxt (below_nxt HB1.out HB2.out) HB3.out) HB4.out) HB5.out) HB6.out)
  clear vb ub qb
  refine (overBytes_any r3 w2.heap.size A w6 O3.out (by omega)).mono ?_
  rintro e w7 ⟨⟨r7, rfl⟩, h7⟩
  have O5' := Lib.hid (owns_apart O5.out h7 (fun b hb e => by have := R5.out b hb; have := R3.out b e; omega))
  have P7 := Lib.hid (P6.out.kept h7 (fun e => by have := R3.out _ e.symm; omega))
  have V7 := Lib.hid (V6.out.grown h7 (fun b hb e => by have := VB.out b hb; have := R3.out b e.symm; omega))
  have G7 := Lib.hid (G6.out.grown h7 (fun b hb e => by have := UB.out b hb; have := R3.out b e.symm; omega))
  have Q7 := Lib.hid (Q6.out.grown h7 (fun b hb e => by have := QB.out b hb; have := R3.out b e.symm; omega))
  have B7 := Lib.hid (B6.out.grown h7 (by omega) (fun j e => by have := R3.out j e; omega))
  have s7 := h7.size
  clear h7
  go_wp2_with (first
    | (go_at_call 28; refine (overBytes_any r5 w4.heap.size B w7 O5'.out (by omega)).mono ?_; rintro e w8 ⟨⟨r8, rfl⟩, h8⟩; have P8 := Lib.hid (P7.out.kept h8 (fun e => by have := R5.out _ e.symm; omega)); have V8 := Lib.hid (V7.out.grown h8 (fun b hb e => by have := VB.out b hb; have := R5.out b e.symm; omega)); have G8 := Lib.hid (G7.out.grown h8 (fun b hb e => by have := UB.out b hb; have := R5.out b e.symm; omega)); have Q8 := Lib.hid (Q7.out.grown h8 (fun b hb e => by have := QB.out b hb; have := R5.out b e.symm; omega)); have B8 := Lib.hid (B7.out.grown h8 (by omega) (fun j e => by have := R5.out j e; omega)); clear h8)
    | (go_at_call 29; have hk := keptBytes_true gl _ xs tl w8 P8.out V8.out (by rw [HN.out]; omega) (by rw [HN.out]; exact hmx); rw [HN.out] at hk; refine hk.mono ?_; clear hk; rintro e w9 ⟨rfl, hb9⟩; have B9 := Lib.hid (below_nxt B8.out hb9); have G9 := Lib.hid (G8.out.below hb9); have Q9 := Lib.hid (Q8.out.below hb9); clear hb9)
    | (go_at_call 43; refine (same_true _ _ ys _ Q9.out G9.out).mono ?_; rintro e w10 ⟨rfl, n10, rfl⟩; have B10 := Lib.hid (below_drewN B9.out n10))
    | (go_at_call 55; refine (awake16_any _).mono ?_; rintro e w11 ⟨rfl, hb11⟩; have B11 := Lib.hid (below_nxt B10.out hb11); clear hb11))
  go_ret
  exact ⟨rfl, B11.out⟩
end Go.Proofs.Ytcieggaihelacaa
