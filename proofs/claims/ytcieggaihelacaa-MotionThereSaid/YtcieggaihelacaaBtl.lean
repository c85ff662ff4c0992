/- Layer 16's statements: awake; PaintAdds, walked. -/
import Derived.Test.YtcieggaihelacaaBtk
set_option linter.unusedSimpArgs false
set_option linter.unusedVariables false
namespace Go.Proofs.Ytcieggaihelacaa
open Go.RowKit
set_option maxRecDepth 100000
theorem owns_apart {w w' : World} {base size n : Nat} {e : TypeId} {v : Value} {xs : List Value} {row : Option Nat} (h : w.ownsRow base e size v n xs) (hg : w.grownBy w' row) (hne : ∀ b, v.ownBlock = some b → row ≠ some b) : w'.ownsRow base e size v n xs :=
  h.kept hg (by
    by_cases hn : v.ownBlock = none
    · exact .inl hn
    · obtain ⟨b, hb⟩ := Option.ne_none_iff_exists'.1 hn
      exact .inr (fun e => hne b hb (e.symm.trans hb)))
theorem qcif16_any (g a : Int) (w : World) :
    Calls Try.prog 70 #[.int .i64 g, .int .i64 a] w fun e w' => e = .returned (.agg #[.int .i64 0, .int .i64 g, .int .i64 a]) ∧ Below w.heap.size w w' := by
  go_enter Try.func70, Try.ntmps70
  go_wp2
  exact bodyPost_ret (v := .agg #[.int .i64 0, .int .i64 g, .int .i64 a]) (by simp [results, Try.results70, go_sem]) rfl ⟨rfl, (Below.refl w.heap.size w).alloc (Nat.le_refl _) _⟩
theorem awake16_any (w : World) : Calls Try.prog 55 #[] w fun e w' => e = .returned (.bool true) ∧ Below w.heap.size w w' := by
  have c1 : clipS (-5) = 0 ∧ clipS 300 = 255 ∧ clipS 77 = 77 := by decide
  have c2 : cpE 0 2 1 0 ([] : List Int).length = 8 := by decide
  have HC := Lib.hid c1
  have HE := Lib.hid c2
  have hb := Below.refl w.heap.size w
  clear c1 c2
  go_enter Try.func55, Try.ntmps55
  go_wp2_with (first
    | (go_at_call 62; refine (clip_any _ _).mono ?_; (first | rw [HC.out.1] | rw [HC.out.2.1] | rw [HC.out.2.2]); rintro e w' ⟨rfl, rfl⟩)
    | (go_at_call 88; refine (adds_true _ _ _ _ (by decide) (by decide) (by decide)).mono ?_; rintro e w1 ⟨rfl, hb'⟩; replace hb := below_nxt hb hb'; clear hb')
    | (go_at_call 70; refine (qcif16_any _ _ _).mono ?_; rintro e w1 ⟨rfl, hb'⟩; replace hb := below_nxt hb hb'; clear hb')
    | (go_at_call 56; refine (copy_bad 0 2 1 none 0 0 (.slice none 0 0) [] _ (.inl ⟨rfl, rfl⟩) (by decide) (by decide) (by decide) (by rw [HE.out]; decide)).mono ?_; rw [HE.out]; rintro e w2 ⟨rfl, hb'⟩; replace hb := below_nxt hb hb'; clear hb'))
  go_ret
  exact ⟨rfl, hb⟩
theorem awake_le (w : World) {w' : World} (h : Below w.heap.size w w') (e : Ending) (he : e = .returned (.bool true)) : e = .returned (.bool true) ∧ Below w.heap.size w w' := ⟨he, h⟩
theorem addL_le (xs ys : List Int) : (addL xs ys).length ≤ 64 := by
  unfold addL; split
  · rename_i h
    unfold addE at h
    split at h
    · rename_i h1
      unfold addZ; rw [List.length_zipWith]; omega
    · cases h
  · simp
/-- Lists that are too long: nothing is said. -/
theorem paintAdds_long (va ua : Option Addr) (n m cv cu : Nat) (x : Int) (w : World) (hn : n ≤ 9223372036854775807) (hm : m ≤ 9223372036854775807) (h : 80 < n ∨ 80 < m) :
    Calls Try.prog 14 #[.slice va n cv, .slice ua m cu, .int .i64 x] w fun e w' => e = .returned (.bool true) ∧ Below w.heap.size w w' := by
  have key : decide (80 < (n : Int)) = true ∨ (decide (80 < (n : Int)) = false ∧ decide (80 < (m : Int)) = true) := by
    by_cases h1 : 80 < n
    · exact .inl (by simp; omega)
    · exact .inr ⟨by simp; omega, by simp; omega⟩
  rcases key with k1 | ⟨k1, k2⟩
  all_goals
    go_enter Try.func14, Try.ntmps14
    go_wp2_with (go_at_call 55; refine (awake16_any _).mono ?_; rintro e w1 ⟨rfl, hb⟩)
    go_ret
    exact ⟨rfl, hb⟩
set_option maxHeartbeats 4000000 in
theorem paintAdds_short (v u : Value) (xs ys : List Int) (x : Int) (w : World) (h : Rd .u8 w v xs) (hb : byt xs) (g : Rd .i64 w u ys) (hx : xs.length ≤ 80) (hy : ys.length ≤ 80) :
    Calls Try.prog 14 #[v, u, .int .i64 x] w fun e w' => e = .returned (.bool true) ∧ Below w.heap.size w w' := by
  have hh := h
  have hg := g
  obtain ⟨va, vc, rfl⟩ := h.form
  obtain ⟨ua, uc, rfl⟩ := g.form
  obtain ⟨n, hn⟩ : ∃ n, xs.length = n := ⟨_, rfl⟩
  obtain ⟨m, hm⟩ : ∃ m, ys.length = m := ⟨_, rfl⟩
  have HN := Lib.hid hn
  have HM := Lib.hid hm
  have HBY := Lib.hid hb
  rw [hn] at hh hx ⊢
  rw [hm] at hg hy ⊢
  have HV := Lib.hid hh
  have HG := Lib.hid hg
  have hx' : ¬ 80 < (n : Int) := by omega
  have hy' : ¬ 80 < (m : Int) := by omega
  have hal := addL_le xs ys
  have hfl := addL_le zero64 ys
  obtain ⟨A, hA⟩ : ∃ A, addL xs ys = A := ⟨_, rfl⟩
  obtain ⟨B, hB⟩ : ∃ B, addL zero64 ys = B := ⟨_, rfl⟩
  obtain ⟨E, hE⟩ : ∃ E, addE xs.length ys = E := ⟨_, rfl⟩
  obtain ⟨E', hE'⟩ : ∃ E', addE 64 ys = E' := ⟨_, rfl⟩
  rw [hA] at hal
  rw [hB] at hfl
  have HAB := Lib.hid (And.intro hA (And.intro hB (And.intro hE hE')))
  clear h g hh hg hb hn hm hA hB hE hE'
  go_enter Try.func14, Try.ntmps14
  go_wp2_with (first
    | (go_at_call 22; refine (lentBytes_any _ xs _ HV.out (by rw [HN.out]; omega)).mono ?_; rw [HN.out]; rintro e w1 ⟨⟨gl, tl, rfl, hgl, hp1, hmx⟩, hb1⟩; have hr1 := hp1.rd (by rw [HN.out]; omega) (c := n + (4 + tl.length)) (by rw [HN.out]; omega); rw [HN.out] at hr1; have HR1 := Lib.hid hr1; have HP1 := Lib.hid hp1; have HB1 := Lib.hid hb1; clear hp1 hr1 hb1)
    | (go_at_call 57; refine (copyInts_any _ ys _ (HG.out.below HB1.out) (by rw [HM.out]; omega)).mono ?_; rintro e w2 ⟨⟨q, rfl, hq⟩, hb2⟩; have hqr := Rd.of_owns hq (by rw [HM.out]; omega); obtain ⟨qa, qc, rfl⟩ := hqr.form; rw [HM.out] at hqr ⊢; have HQ := Lib.hid hqr; have HB2 := Lib.hid hb2; clear hq hqr hb2)
    | (go_at_call 58; refine (add_any _ _ xs ys _ (HR1.out.below HB2.out) HBY.out HQ.out).mono ?_; rw [HAB.out.1, HAB.out.2.2.1]; rintro e w3 ⟨⟨r3, rfl, ho3⟩, hb3⟩; have HO3 := Lib.hid ho3; have HB3 := Lib.hid hb3; clear ho3 hb3)
    | (go_at_call 59; refine (radd_any _ _ xs ys _ (((HV.out.below HB1.out).below HB2.out).below HB3.out) HBY.out (((HG.out.below HB1.out).below HB2.out).below HB3.out)).mono ?_; rw [HAB.out.1, HAB.out.2.2.1]; rintro e w4 ⟨⟨r4, rfl, ho4⟩, hb4⟩; have HO4 := Lib.hid ho4; have HB4 := Lib.hid hb4; clear ho4 hb4)
    | (go_at_call 60; refine (flat_any _ ys _ ((HQ.out.below HB3.out).below HB4.out)).mono ?_; rw [HAB.out.2.1, HAB.out.2.2.2]; rintro e w5 ⟨⟨r5, rfl, ho5⟩, hb5⟩; have HO5 := Lib.hid ho5; have HB5 := Lib.hid hb5; clear ho5 hb5)
    | (go_at_call 61; refine (rflat_any _ ys _ (((((HG.out.below HB1.out).below HB2.out).below HB3.out).below HB4.out).below HB5.out)).mono ?_; rw [HAB.out.2.1, HAB.out.2.2.2]; rintro e w6 ⟨⟨r6, rfl, ho6⟩, hb6⟩; have HO6 := Lib.hid ho6; have HB6 := Lib.hid hb6; clear ho6 hb6)
    | (go_at_call 25; (with_reducible refine (sameBytes_true r3 r4 A w6 ((((Rd.of_owns HO3.out (by omega)).below HB4.out).below HB5.out).below HB6.out) (((Rd.of_owns HO4.out (by omega)).below HB5.out).below HB6.out)).mono ?_); rintro e w' ⟨rfl, rfl⟩)
    | (go_at_call 25; refine (sameBytes_true r5 r6 B w6 ((Rd.of_owns HO5.out (by omega)).below HB6.out) (Rd.of_owns HO6.out (by omega))).mono ?_; rintro e w' ⟨rfl, rfl⟩)
    | (go_at_call 62; refine (clip_any _ _).mono ?_; rintro e w' ⟨rfl, rfl⟩)
    | (go_at_call 63; refine (rclip_any _ _).mono ?_; rintro e w' ⟨rfl, rfl⟩))
  have s1 := HB1.out.size
  have s2 := HB2.out.size
  have s3 := HB3.out.size
  have s4 := HB4.out.size
  have s5 := HB5.out.size
  have s6 := HB6.out.size
  have R3 := Lib.hid (fun j e => HO3.out.lt j e)
  have R5 := Lib.hid (fun j e => HO5.out.lt j e)
  have O3 := Lib.hid (owns_below (owns_below (owns_below HO3.out HB4.out) HB5.out) HB6.out)
  have O5 := Lib.hid (owns_below HO5.out HB6.out)
  have P6 := Lib.hid (((((HP1.out.below HB2.out).below HB3.out).below HB4.out).below HB5.out).below HB6.out)
  have V6 := Lib.hid ((((((HV.out.below HB1.out).below HB2.out).below HB3.out).below HB4.out).below HB5.out).below HB6.out)
  have G6 := Lib.hid ((((((HG.out.below HB1.out).below HB2.out).below HB3.out).below HB4.out).below HB5.out).below HB6.out)
  have Q6 := Lib.hid ((((HQ.out.below HB3.out).below HB4.out).below HB5.out).below HB6.out)
  have vb : ∀ b, (Value.slice va n vc).ownBlock = some b → b < w.heap.size := fun b hb => HV.out.block b hb
  have ub : ∀ b, (Value.slice ua m uc).ownBlock = some b → b < w.heap.size := fun b hb => HG.out.block b hb
  have qb : ∀ b, (Value.slice qa m qc).ownBlock = some b → b < w2.heap.size := fun b hb => HQ.out.block b hb
  have VB := Lib.hid vb
  have UB := Lib.hid ub
  have QB := Lib.hid qb
  have hgl1 := HP1.out.lt
  have B6 := Lib.hid (below_nxt (below_nxt (below_nxt (below_nxt (below_nxt HB1.out HB2.out) HB3.out) HB4.out) HB5.out) HB6.out)
  clear vb ub qb
  refine (overBytes_any r3 w2.heap.size A w6 O3.out (by omega)).mono ?_
  rintro e w7 ⟨⟨r7, rfl⟩, h7⟩
  have O5' := Lib.hid (owns_apart O5.out h7 (fun b hb e => by have := R5.out b hb; have := R3.out b e; omega))
  have P7 := Lib.hid (P6.out.kept h7 (fun e => by have := R3.out _ e.symm; omega))
  have V7 := Lib.hid (V6.out.grown h7 (fun b hb e => by have := VB.out b hb; have := R3.out b e.symm; omega))
  have G7 := Lib.hid (G6.out.grown h7 (fun b hb e => by have := UB.out b hb; have := R3.out b e.symm; omega))
  have Q7 := Lib.hid (Q6.out.grown h7 (fun b hb e => by have := QB.out b hb; have := R3.out b e.symm; omega))
  have B7 := Lib.hid (B6.out.grown h7 (by omega) (fun j e => by have := R3.out j e; omega))
  have s7 := h7.size
  clear h7
  go_wp2_with (first
    | (go_at_call 28; refine (overBytes_any r5 w4.heap.size B w7 O5'.out (by omega)).mono ?_; rintro e w8 ⟨⟨r8, rfl⟩, h8⟩; have P8 := Lib.hid (P7.out.kept h8 (fun e => by have := R5.out _ e.symm; omega)); have V8 := Lib.hid (V7.out.grown h8 (fun b hb e => by have := VB.out b hb; have := R5.out b e.symm; omega)); have G8 := Lib.hid (G7.out.grown h8 (fun b hb e => by have := UB.out b hb; have := R5.out b e.symm; omega)); have Q8 := Lib.hid (Q7.out.grown h8 (fun b hb e => by have := QB.out b hb; have := R5.out b e.symm; omega)); have B8 := Lib.hid (B7.out.grown h8 (by omega) (fun j e => by have := R5.out j e; omega)); clear h8)
    | (go_at_call 29; have hk := keptBytes_true gl _ xs tl w8 P8.out V8.out (by rw [HN.out]; omega) (by rw [HN.out]; exact hmx); rw [HN.out] at hk; refine hk.mono ?_; clear hk; rintro e w9 ⟨rfl, hb9⟩; have B9 := Lib.hid (below_nxt B8.out hb9); have G9 := Lib.hid (G8.out.below hb9); have Q9 := Lib.hid (Q8.out.below hb9); clear hb9)
    | (go_at_call 43; refine (same_true _ _ ys _ Q9.out G9.out).mono ?_; rintro e w10 ⟨rfl, n10, rfl⟩; have B10 := Lib.hid (below_drewN B9.out n10))
    | (go_at_call 55; refine (awake16_any _).mono ?_; rintro e w11 ⟨rfl, hb11⟩; have B11 := Lib.hid (below_nxt B10.out hb11); clear hb11))
  go_ret
  exact ⟨rfl, B11.out⟩
end Go.Proofs.Ytcieggaihelacaa
/- Layer 16's statements: some blocks of bytes that a function holds, as one fact; PaintLays, walked. -/
set_option linter.unusedSimpArgs false
set_option linter.unusedVariables false
namespace Go.Proofs.Ytcieggaihelacaa
open Go.RowKit
set_option maxRecDepth 100000
/-- Since w1 nothing old has changed; each of the blocks in L is new since then, and holds what L says; no two are the same. -/
def St (w1 : World) (L : List (Nat × List Int × List Value)) (w : World) : Prop :=
  Below w1.heap.size w1 w ∧ (∀ p ∈ L, w1.heap.size ≤ p.1 ∧ Pic w p.1 p.2.1 p.2.2) ∧ (L.map (·.1)).Nodup
section
variable {w1 w w' : World} {L : List (Nat × List Int × List Value)}
theorem St.nil (w1 : World) : St w1 [] w1 := ⟨Below.refl _ _, by simp, by simp⟩
theorem St.old (h : St w1 L w) : Below w1.heap.size w1 w := h.1
theorem St.drewN (h : St w1 L w) (n : Nat) : St w1 L (w.drewN n) := ⟨below_drewN h.1 n, fun p hp => ⟨(h.2.1 p hp).1, (h.2.1 p hp).2.drewN n⟩, h.2.2⟩
theorem St.below (h : St w1 L w) (hb : Below w.heap.size w w') : St w1 L w' := ⟨below_nxt h.1 hb, fun p hp => ⟨(h.2.1 p hp).1, (h.2.1 p hp).2.below hb⟩, h.2.2⟩
theorem St.push (h : St w1 L w) (hb : Below w.heap.size w w') {g : Nat} {xs : List Int} {tl : List Value} (hg : w.heap.size ≤ g) (hp : Pic w' g xs tl) : St w1 ((g, xs, tl) :: L) w' := by
  have h' := h.below hb
  refine ⟨h'.1, fun p hp' => ?_, ?_⟩
  · rcases List.mem_cons.1 hp' with rfl | hm
    · exact ⟨Nat.le_trans h.1.size hg, hp⟩
    · exact h'.2.1 p hm
  · rw [List.map_cons, List.nodup_cons]
    refine ⟨fun hm => ?_, h.2.2⟩
    obtain ⟨p, hp1, hp2⟩ := List.mem_map.1 hm
    have := (h.2.1 p hp1).2.lt
    omega
theorem St.pic (h : St w1 L w) (i : Nat) {g : Nat} {xs : List Int} {tl : List Value} (hi : L[i]? = some (g, xs, tl)) : Pic w g xs tl := (h.2.1 _ (List.mem_of_getElem? hi)).2
theorem St.ge (h : St w1 L w) (i : Nat) {g : Nat} {xs : List Int} {tl : List Value} (hi : L[i]? = some (g, xs, tl)) : w1.heap.size ≤ g := (h.2.1 _ (List.mem_of_getElem? hi)).1
theorem St.ne (h : St w1 L w) (i j : Nat) {g k : Nat} {xs ys : List Int} {tl ul : List Value} (hi : L[i]? = some (g, xs, tl)) (hj : L[j]? = some (k, ys, ul)) (hij : i ≠ j) : g ≠ k := by
  intro e
  have h1 : (L.map (·.1))[i]? = some g := by rw [List.getElem?_map, hi]; rfl
  have h2 : (L.map (·.1))[j]? = some g := by rw [List.getElem?_map, hj, e]; rfl
  have hl := (List.getElem?_eq_some_iff.1 h1).1
  exact hij ((List.getElem?_inj hl h.2.2).1 (h1.trans h2.symm))
/-- One of the blocks is written over. -/
theorem St.upd (h : St w1 L w) (i : Nat) {g : Nat} {xs ys : List Int} {tl ul : List Value} (hi : L[i]? = some (g, xs, tl)) (hg : w.grownBy w' (some g)) (hp : Pic w' g ys ul) : St w1 (L.set i (g, ys, ul)) w' := by
  have hge := h.ge i hi
  have hil := (List.getElem?_eq_some_iff.1 hi).1
  refine ⟨h.1.grown hg h.1.size (fun j e => by cases e; exact hge), fun p hp' => ?_, ?_⟩
  · obtain ⟨j, hj, rfl⟩ := List.getElem_of_mem hp'
    rw [List.getElem_set]
    split
    · exact ⟨hge, hp⟩
    · rename_i hne
      have hjL : j < L.length := by simpa using hj
      have hj' : L[j]? = some (L[j].1, L[j].2.1, L[j].2.2) := by simp [hjL]
      exact ⟨h.ge j hj', (h.pic j hj').kept hg (fun e => by cases e; exact h.ne i j hi hj' hne rfl)⟩
  · have : (L.set i (g, ys, ul)).map (·.1) = L.map (·.1) := by
      apply List.ext_getElem?
      intro j
      rw [List.map_set, List.getElem?_set]
      split
      · rename_i e; subst e
        rw [List.getElem?_map, hi]; simp [hil]
      · rfl
    rw [this]; exact h.2.2
/-- The end of a block of bytes counts as the cells behind it. -/
theorem Pic.split {g : Nat} {xs : List Int} {tl : List Value} (h : Pic w g xs tl) (m : Nat) : Pic w g (xs.take m) ((xs.drop m).map (Value.int .u8) ++ tl) := by
  unfold Pic at *
  rw [h, ← List.append_assoc, ← List.map_append, List.take_append_drop]
end
theorem GreyV.rd {f : Int} {w w' : World} {r : Value} (h : GreyV f w w' r) : Rd .u8 w' r (greyL f) := by
  rcases h with ⟨h, rfl⟩ | ⟨g, n, tl, h, rfl, hn, hl, _, hp⟩
  · refine .inl ⟨rfl, ?_⟩
    rcases fmt_cases f with ⟨_, _, _, _, e⟩ | ⟨_, _, _, _, e⟩ | ⟨_, _, _, _, e, _⟩
    · exact absurd e h
    · exact absurd e h
    · unfold greyL; rw [e]; rfl
  · have : n ≤ 200000 := by rcases fmt_cases f with ⟨_, _, _, e, _⟩ | ⟨_, _, _, e, _⟩ | ⟨_, _, _, _, e, _⟩ <;> omega
    have h2 := hp.rd (by omega) (c := n) (by omega)
    rw [hl] at h2
    exact h2
theorem greyL_bd (f : Int) : (greyL f).length ≤ 140737488351232 := by
  unfold greyL; rw [List.length_replicate]
  rcases fmt_cases f with ⟨_, _, _, e, _⟩ | ⟨_, _, _, e, _⟩ | ⟨_, _, _, _, e, _⟩ <;> rw [e] <;> decide
theorem layL_len (f g a b : Int) (xs ss : List Int) : (layL f g a b xs ss).length = xs.length := by
  unfold layL; split
  · rw [put_len]
  · rfl
/-! ### The contracts, with their lengths named -/
section
variable {w : World}
theorem Pic.rdn {g : Nat} {xs : List Int} {tl : List Value} (h : Pic w g xs tl) {m c : Nat} (hm : xs.length = m) (hl : m ≤ 1000000) (hc : m ≤ c) : Rd .u8 w (.slice (some ⟨g, 0, none⟩) m c) xs := by
  subst hm; exact h.rd (by omega) hc
theorem lent_n (v : Value) (xs : List Int) (w : World) (h : Rd .u8 w v xs) (m : Nat) (hm : xs.length = m) (hl : m ≤ 1000000) :
    Calls Try.prog 22 #[v] w fun e w' => (∃ g tl, e = .returned (.slice (some ⟨g, 0, none⟩) m (m + (4 + tl.length))) ∧ w.heap.size ≤ g ∧ Pic w' g xs (lent4 ++ tl) ∧ m + (4 + tl.length) ≤ maxLen) ∧ Below w.heap.size w w' := by
  subst hm; exact lentBytes_any v xs w h hl
theorem kept_n (g : Nat) (u : Value) (xs : List Int) (tl : List Value) (w : World) (hp : Pic w g xs (lent4 ++ tl)) (hu : Rd .u8 w u xs) (m : Nat) (hm : xs.length = m) (hl : m ≤ 1000000) (hx : m + (4 + tl.length) ≤ maxLen) :
    Calls Try.prog 29 #[.slice (some ⟨g, 0, none⟩) m (m + (4 + tl.length)), u] w fun e w' => e = .returned (.bool true) ∧ Below w.heap.size w w' := by
  subst hm; exact keptBytes_true g u xs tl w hp hu hl hx
theorem lay_n (f g a b : Int) (gb c : Nat) (xs ss : List Int) (tl : List Value) (u : Value) (w : World) (hp : Pic w gb xs tl) (hs : Rd .u8 w u ss) (hsb : ∀ k, u.ownBlock = some k → k ≠ gb) (m n : Nat) (hm : xs.length = m) (hn : ss.length = n) (hl : m ≤ c) (hx : m ≤ 1000000) (ha : -9223372036854775808 ≤ a) (ha2 : a ≤ 9223372036854775807) :
    Calls Try.prog 65 #[.slice (some ⟨gb, 0, none⟩) m c, .agg #[.int .i64 f, .int .i64 g, .int .i64 a], .int .i64 b, u] w fun e w' => e = .returned (.int .i64 (layE f g a m n b)) ∧ Pic w' gb (layL f g a b xs ss) tl ∧ w.grownBy w' (some gb) := by
  subst hm hn; exact lay_any f g a b gb c xs ss tl u w hp hs hsb hl hx ha ha2
theorem rlay_n (f g a b : Int) (gb c : Nat) (xs ss : List Int) (tl : List Value) (u : Value) (w : World) (hp : Pic w gb xs tl) (hs : Rd .u8 w u ss) (hsb : ∀ k, u.ownBlock = some k → k ≠ gb) (m n : Nat) (hm : xs.length = m) (hn : ss.length = n) (hl : m ≤ c) (hx : m ≤ 1000000) (ha : -9223372036854775808 ≤ a) (ha2 : a ≤ 9223372036854775807) :
    Calls Try.prog 66 #[.slice (some ⟨gb, 0, none⟩) m c, .agg #[.int .i64 f, .int .i64 g, .int .i64 a], .int .i64 b, u] w fun e w' => e = .returned (.int .i64 (layE f g a m n b)) ∧ Pic w' gb (layL f g a b xs ss) tl ∧ w.grownBy w' (some gb) := by
  subst hm hn; exact rlay_any f g a b gb c xs ss tl u w hp hs hsb hl hx ha ha2
theorem copy_n (f g a : Int) (gb c : Nat) (xs ys : List Int) (tl : List Value) (u : Value) (w : World) (hp : Pic w gb xs tl) (hs : Rd .u8 w u ys) (hsb : ∀ k, u.ownBlock = some k → k ≠ gb) (m n : Nat) (hm : xs.length = m) (hn : ys.length = n) (hl : m ≤ c) (hx : m ≤ 1000000) (ha : -9223372036854775808 ≤ a) (ha2 : a ≤ 9223372036854775807) :
    Calls Try.prog 56 #[.slice (some ⟨gb, 0, none⟩) m c, u, .agg #[.int .i64 f, .int .i64 g, .int .i64 a]] w fun e w' => e = .returned (.int .i64 (cpE f g a m n)) ∧ Pic w' gb (cpL f g a xs ys) tl ∧ w.grownBy w' (some gb) := by
  subst hm hn; exact copy_any f g a gb c xs ys tl u w hp hs hsb hl hx ha ha2
theorem rcopy_n (f g a : Int) (gb c : Nat) (xs ys : List Int) (tl : List Value) (u : Value) (w : World) (hp : Pic w gb xs tl) (hs : Rd .u8 w u ys) (hsb : ∀ k, u.ownBlock = some k → k ≠ gb) (m n : Nat) (hm : xs.length = m) (hn : ys.length = n) (hl : m ≤ c) (hx : m ≤ 1000000) (ha : -9223372036854775808 ≤ a) (ha2 : a ≤ 9223372036854775807) :
    Calls Try.prog 67 #[.slice (some ⟨gb, 0, none⟩) m c, u, .agg #[.int .i64 f, .int .i64 g, .int .i64 a]] w fun e w' => e = .returned (.int .i64 (cpE f g a m n)) ∧ Pic w' gb (cpL f g a xs ys) tl ∧ w.grownBy w' (some gb) := by
  subst hm hn; exact rcopy_any f g a gb c xs ys tl u w hp hs hsb hl hx ha ha2
theorem own_ne {a : Nat} {m c g : Nat} (h : a ≠ g) : ∀ k, (Value.slice (some ⟨a, 0, none⟩) m c).ownBlock = some k → k ≠ g := fun k hk => by
  simp only [Value.ownBlock, Option.some.injEq] at hk; subst hk; exact h
end
end Go.Proofs.Ytcieggaihelacaa
/- Plain laws of a picture: every sample lies in a block of a spot; to copy spot by spot makes the pictures the same. -/
set_option linter.unusedSimpArgs false
set_option linter.unusedVariables false
namespace Go.Proofs.Ytcieggaihelacaa
open Go.RowKit
theorem put_agree {q : Nat → Nat} {v : Nat → Int} {xs ys : List Int} (hv : ∀ i, v i = ys[q i]?.getD 0) (hl : xs.length = ys.length) (m : Nat) : ∀ (k : Nat), (∀ i, i < k → q i < ys.length) → (xs[m]? = ys[m]? ∨ ∃ i, i < k ∧ q i = m) → (put q v k xs)[m]? = ys[m]?
  | 0, _, h => by
    rcases h with h | ⟨i, hi, _⟩
    · exact h
    · omega
  | k + 1, hq, h => by
    unfold put
    have hqk := hq k (by omega)
    by_cases e : q k = m
    · subst e
      rw [List.getElem?_set_self (by rw [put_len]; omega), hv, List.getElem?_eq_getElem hqk, Option.getD_some]
    · rw [List.getElem?_set_ne e]
      refine put_agree hv hl m k (fun i hi => hq i (by omega)) ?_
      rcases h with h | ⟨i, hi, hm⟩
      · exact .inl h
      · refine .inr ⟨i, ?_, hm⟩
        have : i ≠ k := fun e' => e (by rw [← e']; exact hm)
        omega
theorem cpN_agree {f g a : Int} {xs ys : List Int} (hl : xs.length = ys.length) (hq : ∀ (b : Int) (i : Nat), 1 ≤ b ∧ b ≤ 6 → i < 64 → layQ f g a b i < ys.length) (m : Nat) : ∀ (J : Nat), J ≤ 6 → (xs[m]? = ys[m]? ∨ ∃ j : Nat, j < J ∧ ∃ i : Nat, i < 64 ∧ layQ f g a ((j : Int) + 1) i = m) → (cpN f g a ys J xs)[m]? = ys[m]?
  | 0, _, h => by
    rcases h with h | ⟨j, hj, _⟩
    · exact h
    · omega
  | J + 1, hJ, h => by
    unfold cpN
    refine put_agree (fun _ => rfl) (by rw [cpN_len]; exact hl) m 64 (fun i hi => hq _ i (by omega) hi) ?_
    rcases h with h | ⟨j, hj, i, hi, hm⟩
    · exact .inl (cpN_agree hl hq m J (by omega) (.inl h))
    · by_cases e : j = J
      · subst e; exact .inr ⟨i, hi, hm⟩
      · exact .inl (cpN_agree hl hq m J (by omega) (.inr ⟨j, by omega, i, hi, hm⟩))
/-- All spots ahead of g, a are the same in both pictures. -/
def Cov (f g a : Int) (xs ys : List Int) : Prop := ∀ (g' a' b : Int) (i : Nat), g' ∈ groupsS f → 1 ≤ a' ∧ a' ≤ 33 → 1 ≤ b ∧ b ≤ 6 → i < 64 → (g' < g ∨ (g' = g ∧ a' < a)) → xs[layQ f g' a' b i]? = ys[layQ f g' a' b i]?
theorem Cov.start (f : Int) (xs ys : List Int) : Cov f 1 1 xs ys := fun g' a' b i hg ha hb hi h => by
  have := groups_bd hg
  omega
theorem Cov.step {f g a : Int} {xs ys : List Int} (h : Cov f g a xs ys) (hc : cornE f g a = 0) (hx : (xs.length : Int) = bytesS f) (hy : (ys.length : Int) = bytesS f) : Cov f g (a + 1) (cpL f g a xs ys) ys := by
  have hE : cpE f g a xs.length ys.length = 0 := by unfold cpE; rw [if_pos hc, if_pos ⟨hx, hy⟩]
  have hL : cpL f g a xs ys = cpN f g a ys 6 xs := by unfold cpL; rw [if_pos hE]
  intro g' a' b i hg ha hb hi hlt
  rw [hL]
  refine cpN_agree (by omega) (fun b i hb hi => (layQ_is hc hy hb hi).2) _ 6 (by omega) ?_
  by_cases e : g' = g ∧ a' = a
  · obtain ⟨rfl, rfl⟩ := e
    exact .inr ⟨(b - 1).toNat, by omega, i, hi, by rw [show (((b - 1).toNat : Nat) : Int) + 1 = b by omega]⟩
  · exact .inl (h g' a' b i hg ha hb hi (by omega))
theorem Cov.next {f g : Int} {xs ys : List Int} (h : Cov f g 34 xs ys) : Cov f (g + 1) 1 xs ys := fun g' a' b i hg ha hb hi hlt => h g' a' b i hg ha hb hi (by omega)
theorem Cov.skip {f g : Int} {xs ys : List Int} (h : Cov f g 1 xs ys) (hn : g ∉ groupsS f) : Cov f (g + 1) 1 xs ys := fun g' a' b i hg ha hb hi hlt => h g' a' b i hg ha hb hi (by
  have : g' ≠ g := fun e => hn (e ▸ hg)
  omega)
theorem lay_luma {f p q r s t u v z : Int} (hf : f = 0 ∨ f = 1) (hp : 0 ≤ p) (hq : 0 ≤ q ∧ q ≤ 2) (hr : 0 ≤ r ∧ r ≤ 1) (hs : 0 ≤ s ∧ s ≤ 7) (ht : 0 ≤ t ∧ t ≤ 1) (htf : f = 0 → t = 0) (hu : 0 ≤ u ∧ u ≤ 10) (hv : 0 ≤ v ∧ v ≤ 1) (hz : 0 ≤ z ∧ z ≤ 7) :
    (layQ f (2 * p + t + 1) (1 + 11 * q + u) (1 + 2 * r + v) (8 * s + z).toNat : Int) = (48 * p + 16 * q + 8 * r + s) * wideS f + (176 * t + 16 * u + 8 * v + z) := by
  have e1 : (1 + 11 * q + u - 1) % 11 = u := by omega
  have e2 : (1 + 11 * q + u - 1) / 11 = q := by omega
  have e3 : (2 * p + t + 1 - 1) % 2 = t := by omega
  have e4 : (2 * p + t + 1 - 1) / 2 = p := by omega
  have e5 : (1 + 2 * r + v - 1) % 2 = v := by omega
  have e6 : (1 + 2 * r + v - 1) / 2 = r := by omega
  have e7 : (((8 * s + z).toNat : Nat) : Int) / 8 = s := by omega
  have e8 : (((8 * s + z).toNat : Nat) : Int) % 8 = z := by omega
  unfold layQ
  rw [fetI_0]
  unfold plcV plcS cornerX cornerY
  rw [if_pos (by omega), if_pos (by omega), e1, e2, e3, e4, e5, e6, e7, e8]
  rcases hf with rfl | rfl
  · have w0 : wideS 0 = 176 := rfl
    rw [w0]; have := htf rfl; omega
  · have w0 : wideS 1 = 352 := rfl
    rw [w0]; omega
theorem lay_chroma {f p q s t u z c : Int} (hf : f = 0 ∨ f = 1) (hp : 0 ≤ p) (hq : 0 ≤ q ∧ q ≤ 2) (hs : 0 ≤ s ∧ s ≤ 7) (ht : 0 ≤ t ∧ t ≤ 1) (htf : f = 0 → t = 0) (hu : 0 ≤ u ∧ u ≤ 10) (hz : 0 ≤ z ∧ z ≤ 7) (hc : 0 ≤ c ∧ c ≤ 1) :
    (layQ f (2 * p + t + 1) (1 + 11 * q + u) (5 + c) (8 * s + z).toNat : Int) = wideS f * highS f + c * (wideS f * highS f / 4) + (24 * p + 8 * q + s) * (wideS f / 2) + (88 * t + 8 * u + z) := by
  have e1 : (1 + 11 * q + u - 1) % 11 = u := by omega
  have e2 : (1 + 11 * q + u - 1) / 11 = q := by omega
  have e3 : (2 * p + t + 1 - 1) % 2 = t := by omega
  have e4 : (2 * p + t + 1 - 1) / 2 = p := by omega
  have e5 : 5 + c - 5 = c := by omega
  have e7 : (((8 * s + z).toNat : Nat) : Int) / 8 = s := by omega
  have e8 : (((8 * s + z).toNat : Nat) : Int) % 8 = z := by omega
  unfold layQ
  rw [fetI_0]
  unfold plcV plcS cornerX cornerY
  rw [if_neg (by omega), if_neg (by omega), e1, e2, e3, e4, e5, e7, e8]
  rcases hf with rfl | rfl
  · have w0 : wideS 0 = 176 := rfl
    have h0 : highS 0 = 144 := rfl
    rw [w0, h0]; have := htf rfl; omega
  · have w0 : wideS 1 = 352 := rfl
    have h0 : highS 1 = 288 := rfl
    rw [w0, h0]; omega
theorem mem_groups {f p t : Int} (hf : f = 0 ∨ f = 1) (hp : 0 ≤ p) (hp0 : f = 0 → p ≤ 2) (hp1 : f = 1 → p ≤ 5) (ht : 0 ≤ t ∧ t ≤ 1) (htf : f = 0 → t = 0) : 2 * p + t + 1 ∈ groupsS f := by
  rcases hf with rfl | rfl
  · have e : groupsS 0 = [1, 3, 5] := rfl
    have := htf rfl; have := hp0 rfl
    rw [e]; simp; omega
  · have e : groupsS 1 = [1, 2, 3, 4, 5, 6, 7, 8, 9, 10, 11, 12] := rfl
    have := hp1 rfl
    rw [e]; simp; omega
theorem spot_of {f : Int} (hf : f = 0 ∨ f = 1) (m : Nat) (hm : (m : Int) < bytesS f) : ∃ (g a b : Int) (i : Nat), g ∈ groupsS f ∧ (1 ≤ a ∧ a ≤ 33) ∧ (1 ≤ b ∧ b ≤ 6) ∧ i < 64 ∧ layQ f g a b i = m := by
  rcases hf with rfl | rfl
  · have w0 : wideS 0 = 176 := rfl
    have h0 : highS 0 = 144 := rfl
    have b0 : bytesS 0 = 38016 := rfl
    rw [b0] at hm
    by_cases hl : m < 25344
    · obtain ⟨y, hy⟩ : ∃ y : Int, (m : Int) / 176 = y := ⟨_, rfl⟩
      obtain ⟨x, hx⟩ : ∃ x : Int, (m : Int) % 176 = x := ⟨_, rfl⟩
      have hyx : (m : Int) = 176 * y + x ∧ 0 ≤ y ∧ y < 144 ∧ 0 ≤ x ∧ x < 176 := by omega
      clear hy hx
      have h := lay_luma (f := 0) (p := y / 48) (q := y % 48 / 16) (r := y % 16 / 8) (s := y % 8) (t := 0) (u := x / 16) (v := x % 16 / 8) (z := x % 8) (.inl rfl) (by omega) (by omega) (by omega) (by omega) (by omega) (by omega) (by omega) (by omega) (by omega)
      exact ⟨2 * (y / 48) + 0 + 1, 1 + 11 * (y % 48 / 16) + x / 16, 1 + 2 * (y % 16 / 8) + x % 16 / 8, (8 * (y % 8) + x % 8).toNat, mem_groups (p := y / 48) (t := 0) (.inl rfl) (by omega) (by omega) (by omega) (by omega) (by omega), by omega, by omega, by omega, by rw [w0] at h; omega⟩
    · obtain ⟨c, hc⟩ : ∃ c : Int, ((m : Int) - 25344) / 6336 = c := ⟨_, rfl⟩
      obtain ⟨k, hk⟩ : ∃ k : Int, ((m : Int) - 25344) % 6336 = k := ⟨_, rfl⟩
      have hck : (m : Int) = 25344 + 6336 * c + k ∧ 0 ≤ c ∧ c ≤ 1 ∧ 0 ≤ k ∧ k < 6336 := by omega
      clear hc hk
      obtain ⟨y, hy⟩ : ∃ y : Int, k / 88 = y := ⟨_, rfl⟩
      obtain ⟨x, hx⟩ : ∃ x : Int, k % 88 = x := ⟨_, rfl⟩
      have hyx : k = 88 * y + x ∧ 0 ≤ y ∧ y < 72 ∧ 0 ≤ x ∧ x < 88 := by omega
      clear hy hx
      have h := lay_chroma (f := 0) (p := y / 24) (q := y % 24 / 8) (s := y % 8) (t := 0) (u := x / 8) (z := x % 8) (c := c) (.inl rfl) (by omega) (by omega) (by omega) (by omega) (by omega) (by omega) (by omega) (by omega)
      exact ⟨2 * (y / 24) + 0 + 1, 1 + 11 * (y % 24 / 8) + x / 8, 5 + c, (8 * (y % 8) + x % 8).toNat, mem_groups (p := y / 24) (t := 0) (.inl rfl) (by omega) (by omega) (by omega) (by omega) (by omega), by omega, by omega, by omega, by rw [w0, h0] at h; omega⟩
  · have w0 : wideS 1 = 352 := rfl
    have h0 : highS 1 = 288 := rfl
    have b0 : bytesS 1 = 152064 := rfl
    rw [b0] at hm
    by_cases hl : m < 101376
    · obtain ⟨y, hy⟩ : ∃ y : Int, (m : Int) / 352 = y := ⟨_, rfl⟩
      obtain ⟨x, hx⟩ : ∃ x : Int, (m : Int) % 352 = x := ⟨_, rfl⟩
      have hyx : (m : Int) = 352 * y + x ∧ 0 ≤ y ∧ y < 288 ∧ 0 ≤ x ∧ x < 352 := by omega
      clear hy hx
      have h := lay_luma (f := 1) (p := y / 48) (q := y % 48 / 16) (r := y % 16 / 8) (s := y % 8) (t := x / 176) (u := x % 176 / 16) (v := x % 16 / 8) (z := x % 8) (.inr rfl) (by omega) (by omega) (by omega) (by omega) (by omega) (by omega) (by omega) (by omega) (by omega)
      exact ⟨2 * (y / 48) + x / 176 + 1, 1 + 11 * (y % 48 / 16) + x % 176 / 16, 1 + 2 * (y % 16 / 8) + x % 16 / 8, (8 * (y % 8) + x % 8).toNat, mem_groups (p := y / 48) (t := x / 176) (.inr rfl) (by omega) (by omega) (by omega) (by omega) (by omega), by omega, by omega, by omega, by rw [w0] at h; omega⟩
    · obtain ⟨c, hc⟩ : ∃ c : Int, ((m : Int) - 101376) / 25344 = c := ⟨_, rfl⟩
      obtain ⟨k, hk⟩ : ∃ k : Int, ((m : Int) - 101376) % 25344 = k := ⟨_, rfl⟩
      have hck : (m : Int) = 101376 + 25344 * c + k ∧ 0 ≤ c ∧ c ≤ 1 ∧ 0 ≤ k ∧ k < 25344 := by omega
      clear hc hk
      obtain ⟨y, hy⟩ : ∃ y : Int, k / 176 = y := ⟨_, rfl⟩
      obtain ⟨x, hx⟩ : ∃ x : Int, k % 176 = x := ⟨_, rfl⟩
      have hyx : k = 176 * y + x ∧ 0 ≤ y ∧ y < 144 ∧ 0 ≤ x ∧ x < 176 := by omega
      clear hy hx
      have h := lay_chroma (f := 1) (p := y / 24) (q := y % 24 / 8) (s := y % 8) (t := x / 88) (u := x % 88 / 8) (z := x % 8) (c := c) (.inr rfl) (by omega) (by omega) (by omega) (by omega) (by omega) (by omega) (by omega) (by omega)
      exact ⟨2 * (y / 24) + x / 88 + 1, 1 + 11 * (y % 24 / 8) + x % 88 / 8, 5 + c, (8 * (y % 8) + x % 8).toNat, mem_groups (p := y / 24) (t := x / 88) (.inr rfl) (by omega) (by omega) (by omega) (by omega) (by omega), by omega, by omega, by omega, by rw [w0, h0] at h; omega⟩
theorem Cov.all {f : Int} {xs ys : List Int} (hf : f = 0 ∨ f = 1) (h : Cov f 13 1 xs ys) (hx : (xs.length : Int) = bytesS f) (hy : (ys.length : Int) = bytesS f) : xs = ys := by
  apply List.ext_getElem?
  intro m
  by_cases hm : m < xs.length
  · obtain ⟨g, a, b, i, hg, ha, hb, hi, e⟩ := spot_of hf m (by omega)
    have := h g a b i hg ha hb hi (by have := groups_bd hg; omega)
    rw [e] at this
    exact this
  · rw [List.getElem?_eq_none (by omega), List.getElem?_eq_none (by omega)]
theorem corn_zero {f g a : Int} (h : f = 0 ∨ f = 1) (hg : g ∈ groupsS f) (ha : 1 ≤ a ∧ a ≤ 33) : cornE f g a = 0 := by unfold cornE; rw [if_pos h, if_pos hg, if_pos ha]
end Go.Proofs.Ytcieggaihelacaa
/- Plain laws of a picture: what is laid is fetched again; another block of the same spot stays; to lay twice is the same as once; how many samples change. -/
set_option linter.unusedSimpArgs false
set_option linter.unusedVariables false
namespace Go.Proofs.Ytcieggaihelacaa
open Go.RowKit
theorem put_hits {q : Nat → Nat} {v : Nat → Int} {xs zs : List Int} (hl : xs.length = zs.length) (m : Nat) : ∀ (k : Nat), (∃ i, i < k ∧ q i = m) → (put q v k xs)[m]? = (put q v k zs)[m]?
  | 0, h => by obtain ⟨i, hi, _⟩ := h; omega
  | k + 1, h => by
    unfold put
    by_cases e : q k = m
    · subst e
      by_cases hq : q k < xs.length
      · rw [List.getElem?_set_self (by rw [put_len]; exact hq), List.getElem?_set_self (by rw [put_len]; omega)]
      · rw [List.getElem?_eq_none (by rw [List.length_set, put_len]; omega), List.getElem?_eq_none (by rw [List.length_set, put_len]; omega)]
    · rw [List.getElem?_set_ne e, List.getElem?_set_ne e]
      refine put_hits hl m k ?_
      obtain ⟨i, hi, hm⟩ := h
      refine ⟨i, ?_, hm⟩
      have : i ≠ k := fun e' => e (by rw [← e']; exact hm)
      omega
theorem put_twice {q : Nat → Nat} {v : Nat → Int} {k : Nat} {xs : List Int} : put q v k (put q v k xs) = put q v k xs := by
  apply List.ext_getElem?
  intro m
  by_cases h : ∃ i, i < k ∧ q i = m
  · exact put_hits (put_len q v k xs) m k h
  · exact put_miss (fun i hi e => h ⟨i, hi, e⟩)
set_option maxHeartbeats 4000000 in
theorem layQ_apart {f g a b c : Int} {i j : Nat} (hf : f = 0 ∨ f = 1) (hc : cornE f g a = 0) (hb : 1 ≤ b ∧ b ≤ 6) (hc6 : 1 ≤ c ∧ c ≤ 6) (hi : i < 64) (hj : j < 64) (h : layQ f g a b i = layQ f g a c j) : b = c ∧ i = j := by
  obtain ⟨_, hg, ha, _, _⟩ := corn_ok hc
  obtain ⟨x0, x1, y0, y1⟩ := corner_bd hf hg ha
  have m16 : cornerX f g a % 16 = 0 ∧ cornerY g a % 16 = 0 := by
    unfold cornerX cornerY
    rcases hf with rfl | rfl <;> omega
  unfold layQ at h
  rw [fetI_0, fetI_0] at h
  unfold plcV plcS at h
  generalize cornerX f g a = X at *
  generalize cornerY g a = Y at *
  clear ha hg hc
  rcases hf with rfl | rfl
  · have w0 : wideS 0 = 176 := rfl
    have h0 : highS 0 = 144 := rfl
    rw [w0, h0] at h
    rw [w0] at x1; rw [h0] at y1
    by_cases hb4 : b ≤ 4 <;> by_cases hc4 : c ≤ 4
    · rw [if_pos hb4, if_pos hc4, if_pos hb4, if_pos hc4] at h
      have hb' : b = 1 ∨ b = 2 ∨ b = 3 ∨ b = 4 := by omega
      have hc' : c = 1 ∨ c = 2 ∨ c = 3 ∨ c = 4 := by omega
      rcases hb' with rfl | rfl | rfl | rfl <;> rcases hc' with rfl | rfl | rfl | rfl <;> omega
    · rw [if_pos hb4, if_neg hc4, if_pos hb4, if_neg hc4] at h
      have hc' : c = 5 ∨ c = 6 := by omega
      rcases hc' with rfl | rfl <;> omega
    · rw [if_neg hb4, if_pos hc4, if_neg hb4, if_pos hc4] at h
      have hb' : b = 5 ∨ b = 6 := by omega
      rcases hb' with rfl | rfl <;> omega
    · rw [if_neg hb4, if_neg hc4, if_neg hb4, if_neg hc4] at h
      have hb' : b = 5 ∨ b = 6 := by omega
      have hc' : c = 5 ∨ c = 6 := by omega
      rcases hb' with rfl | rfl <;> rcases hc' with rfl | rfl <;> omega
  · have w0 : wideS 1 = 352 := rfl
    have h0 : highS 1 = 288 := rfl
    rw [w0, h0] at h
    rw [w0] at x1; rw [h0] at y1
    by_cases hb4 : b ≤ 4 <;> by_cases hc4 : c ≤ 4
    · rw [if_pos hb4, if_pos hc4, if_pos hb4, if_pos hc4] at h
      have hb' : b = 1 ∨ b = 2 ∨ b = 3 ∨ b = 4 := by omega
      have hc' : c = 1 ∨ c = 2 ∨ c = 3 ∨ c = 4 := by omega
      rcases hb' with rfl | rfl | rfl | rfl <;> rcases hc' with rfl | rfl | rfl | rfl <;> omega
    · rw [if_pos hb4, if_neg hc4, if_pos hb4, if_neg hc4] at h
      have hc' : c = 5 ∨ c = 6 := by omega
      rcases hc' with rfl | rfl <;> omega
    · rw [if_neg hb4, if_pos hc4, if_neg hb4, if_pos hc4] at h
      have hb' : b = 5 ∨ b = 6 := by omega
      rcases hb' with rfl | rfl <;> omega
    · rw [if_neg hb4, if_neg hc4, if_neg hb4, if_neg hc4] at h
      have hb' : b = 5 ∨ b = 6 := by omega
      have hc' : c = 5 ∨ c = 6 := by omega
      rcases hb' with rfl | rfl <;> rcases hc' with rfl | rfl <;> omega
theorem layL_put {f g a b : Int} {xs ss : List Int} (hc : cornE f g a = 0) (hl : (xs.length : Int) = bytesS f) (hs : ss.length = 64) (hb : 1 ≤ b ∧ b ≤ 6) : layE f g a xs.length ss.length b = 0 ∧ layL f g a b xs ss = put (layQ f g a b) (fun i => ss[i]?.getD 0) 64 xs := by
  have hE : layE f g a xs.length ss.length b = 0 := by
    unfold layE; rw [if_pos hc, if_pos ⟨hl, hs⟩]; unfold plE; rw [if_pos hc, if_pos hb]
  exact ⟨hE, by unfold layL; rw [if_pos hE]⟩
theorem fits_00 {f g a : Int} (hc : cornE f g a = 0) : fitsE f g a 0 0 = 0 := by
  obtain ⟨hf, hg, ha3, hX, hY⟩ := corn_ok hc
  obtain ⟨x0, x1, y0, y1⟩ := corner_bd hf hg ha3
  unfold fitsE; rw [if_pos hc, if_pos (by decide), if_pos (by omega)]
theorem fetL_00 {f g a b : Int} {xs : List Int} (hc : cornE f g a = 0) (hl : (xs.length : Int) = bytesS f) (hb : 1 ≤ b ∧ b ≤ 6) : fetE f g a xs.length b 0 0 = 0 ∧ fetL f g a xs b 0 0 = (List.range 64).map (fun k => xs[layQ f g a b k]?.getD 0) := by
  have hE : fetE f g a xs.length b 0 0 = 0 := by
    unfold fetE; rw [if_pos hc, if_pos hl, if_pos hb, fits_00 hc]
  exact ⟨hE, by unfold fetL; rw [if_pos hE]; rfl⟩
theorem list64 {ss : List Int} (hs : ss.length = 64) : (List.range 64).map (fun k => ss[k]?.getD 0) = ss := by
  apply List.ext_getElem?
  intro k
  rw [List.getElem?_map]
  by_cases hk : k < 64
  · rw [List.getElem?_range hk, Option.map_some, List.getElem?_eq_getElem (by omega), Option.getD_some]
  · rw [List.getElem?_eq_none (by simp; omega), List.getElem?_eq_none (by omega)]; rfl
/-- What is laid is fetched again. -/
theorem back_own {f g a b : Int} {xs ss : List Int} (hf : f = 0 ∨ f = 1) (hc : cornE f g a = 0) (hl : (xs.length : Int) = bytesS f) (hs : ss.length = 64) (hb : 1 ≤ b ∧ b ≤ 6) : fetL f g a (layL f g a b xs ss) b 0 0 = ss := by
  rw [(fetL_00 hc (by rw [layL_len]; exact hl) hb).2, (layL_put hc hl hs hb).2]
  refine Eq.trans (List.map_congr_left fun k hk => ?_) (list64 hs)
  have hk' : k < 64 := by simpa using hk
  rw [put_hit hk' (fun j h1 h2 e => by have := (layQ_apart hf hc hb hb h2 hk' e).2; omega) (layQ_is hc hl hb hk').2, Option.getD_some]
/-- Another block of the same spot stays. -/
theorem back_other {f g a b c : Int} {xs ss : List Int} (hf : f = 0 ∨ f = 1) (hc : cornE f g a = 0) (hl : (xs.length : Int) = bytesS f) (hs : ss.length = 64) (hb : 1 ≤ b ∧ b ≤ 6) (hc6 : 1 ≤ c ∧ c ≤ 6) (hne : b ≠ c) : fetL f g a (layL f g a c xs ss) b 0 0 = fetL f g a xs b 0 0 := by
  rw [(fetL_00 hc (by rw [layL_len]; exact hl) hb).2, (fetL_00 hc hl hb).2, (layL_put hc hl hs hc6).2]
  refine List.map_congr_left fun k hk => ?_
  have hk' : k < 64 := by simpa using hk
  rw [put_miss (fun i hi e => hne (layQ_apart hf hc hc6 hb hi hk' e).1.symm)]
theorem back_twice {f g a b : Int} {xs ss : List Int} (hc : cornE f g a = 0) (hl : (xs.length : Int) = bytesS f) (hs : ss.length = 64) (hb : 1 ≤ b ∧ b ≤ 6) : layL f g a b (layL f g a b xs ss) ss = layL f g a b xs ss := by
  rw [(layL_put (xs := layL f g a b xs ss) hc (by rw [layL_len]; exact hl) hs hb).2, (layL_put hc hl hs hb).2, put_twice]
end Go.Proofs.Ytcieggaihelacaa
