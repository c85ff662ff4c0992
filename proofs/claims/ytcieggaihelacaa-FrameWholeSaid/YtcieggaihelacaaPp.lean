/- Layer 16's statements: some blocks of bytes that a function holds, as one fact; PaintLays, walked. -/
import Derived.Test.YtcieggaihelacaaPo
set_option linter.unusedSimpArgs false
set_option linter.unusedVariables false
namespace Go.Proofs.Ytcieggaihelacaa
open Go.RowKit
set_option maxRecDepth 100000
/-- Since w1 nothing old has changed; each of the blocks in L is new since then, and holds what L says; no two are the same. -/
def St (w1 : World) (L : List (Nat × List Int × List Value)) (w : World) : Prop :=
  Below w1.heap.size w1 w ∧ (∀ p ∈ L, w1.heap.size ≤ p.1 ∧ Pic w p.1 p.2.1 p.2.2) ∧ (L.map (·.1)).Nodup
section
variable {w1 w w' : World} {L : List (Nat × List Int × List Value)}
theorem St.nil (w1 : World) : St w1 [] w1 := ⟨Below.refl _ _, by simp, by simp⟩
theorem St.old (h : St w1 L w) : Below w1.heap.size w1 w := h.1
theorem St.drewN (h : St w1 L w) (n : Nat) : St w1 L (w.drewN n) := ⟨below_drewN h.1 n, fun p hp => ⟨(h.2.1 p hp).1, (h.2.1 p hp).2.drewN n⟩, h.2.2⟩
theorem St.below (h : St w1 L w) (hb : Below w.heap.size w w') : St w1 L w' := ⟨below_nxt h.1 hb, fun p hp => ⟨(h.2.1 p hp).1, (h.2.1 p hp).2.below hb⟩, h.2.2⟩
theorem St.push (h : St w1 L w) (hb : Below w.heap.size w w') {g : Nat} {xs : List Int} {tl : List Value} (hg : w.heap.size ≤ g) (hp : Pic w' g xs tl) : St w1 ((g, xs, tl) :: L) w' := by
  have h' := h.below hb
  refine ⟨h'.1, fun p hp' => ?_, ?_⟩
  · rcases List.mem_cons.1 hp' with rfl | hm
    · exact ⟨Nat.le_trans h.1.size hg, hp⟩
    · exact h'.2.1 p hm
  · rw [List.map_cons, List.nodup_cons]
    refine ⟨fun hm => ?_, h.2.2⟩
    obtain ⟨p, hp1, hp2⟩ := List.mem_map.1 hm
    have := (h.2.1 p hp1).2.lt
    omega
theorem St.pic (h : St w1 L w) (i : Nat) {g : Nat} {xs : List Int} {tl : List Value} (hi : L[i]? = some (g, xs, tl)) : Pic w g xs tl := (h.2.1 _ (List.mem_of_getElem? hi)).2
theorem St.ge (h : St w1 L w) (i : Nat) {g : Nat} {xs : List Int} {tl : List Value} (hi : L[i]? = some (g, xs, tl)) : w1.heap.size ≤ g := (h.2.1 _ (List.mem_of_getElem? hi)).1
theorem St.ne (h : St w1 L w) (i j : Nat) {g k : Nat} {xs ys : List Int} {tl ul : List Value} (hi : L[i]? = some (g, xs, tl)) (hj : L[j]? = some (k, ys, ul)) (hij : i ≠ j) : g ≠ k := by
  intro e
  have h1 : (L.map (·.1))[i]? = some g := by rw [List.getElem?_map, hi]; rfl
  have h2 : (L.map (·.1))[j]? = some g := by rw [List.getElem?_map, hj, e]; rfl
  have hl := (List.getElem?_eq_some_iff.1 h1).1
  exact hij ((List.getElem?_inj hl h.2.2).1 (h1.trans h2.symm))
/-- One of the blocks is written over. -/
theorem St.upd (h : St w1 L w) (i : Nat) {g : Nat} {xs ys : List Int} {tl ul : List Value} (hi : L[i]? = some (g, xs, tl)) (hg : w.grownBy w' (some g)) (hp : Pic w' g ys ul) : St w1 (L.set i (g, ys, ul)) w' := by
  have hge := h.ge i hi
  have hil := (List.getElem?_eq_some_iff.1 hi).1
  refine ⟨h.1.grown hg h.1.size (fun j e => by cases e; exact hge), fun p hp' => ?_, ?_⟩
  · obtain ⟨j, hj, rfl⟩ := List.getElem_of_mem hp'
    rw [List.getElem_set]
    split
    · exact ⟨hge, hp⟩
    · rename_i hne
      have hjL : j < L.length := by simpa using hj
      have hj' : L[j]? = some (L[j].1, L[j].2.1, L[j].2.2) := by simp [hjL]
      exact ⟨h.ge j hj', (h.pic j hj').kept hg (fun e => by cases e; exact h.ne i j hi hj' hne rfl)⟩
  · have : (L.set i (g, ys, ul)).map (·.1) = L.map (·.1) := by
      apply List.ext_getElem?
      intro j
      rw [List.map_set, List.getElem?_set]
      split
      · rename_i e; subst e
        rw [List.getElem?_map, hi]; simp [hil]
      · rfl
    rw [this]; exact h.2.2
/-- The end of a block of bytes counts as the cells behind it. -/
theorem Pic.split {g : Nat} {xs : List Int} {tl : List Value} (h : Pic w g xs tl) (m : Nat) : Pic w g (xs.take m) ((xs.drop m).map (Value.int .u8) ++ tl) := by
  unfold Pic at *
  rw [h, ← List.append_assoc, ← List.map_append, List.take_append_drop]
end
theorem GreyV.rd {f : Int} {w w' : World} {r : Value} (h : GreyV f w w' r) : Rd .u8 w' r (greyL f) := by
  rcases h with ⟨h, rfl⟩ | ⟨g, n, tl, h, rfl, hn, hl, _, hp⟩
  · refine .inl ⟨rfl, ?_⟩
    rcases fmt_cases f with ⟨_, _, _, _, e⟩ | ⟨_, _, _, _, e⟩ | ⟨_, _, _, _, e, _⟩
    · exact absurd e h
    · exact absurd e h
    · unfold greyL; rw [e]; rfl
  · have : n ≤ 200000 := by rcases fmt_cases f with ⟨_, _, _, e, _⟩ | ⟨_, _, _, e, _⟩ | ⟨_, _, _, _, e, _⟩ <;> omega
    have h2 := hp.rd (by omega) (c := n) (by omega)
    rw [hl] at h2
    exact h2
theorem greyL_bd (f : Int) : (greyL f).length ≤ 140737488351232 := by
  unfold greyL; rw [List.length_replicate]
  rcases fmt_cases f with ⟨_, _, _, e, _⟩ | ⟨_, _, _, e, _⟩ | ⟨_, _, _, _, e, _⟩ <;> rw [e] <;> decide
theorem layL_len (f g a b : Int) (xs ss : List Int) : (layL f g a b xs ss).length = xs.length := by
  unfold layL; split
  · rw [put_len]
  · rfl
/-! ### The contracts, with their lengths named -/
section
variable {w : World}
theorem Pic.rdn {g : Nat} {xs : List Int} {tl : List Value} (h : Pic w g xs tl) {m c : Nat} (hm : xs.length = m) (hl : m ≤ 1000000) (hc : m ≤ c) : Rd .u8 w (.slice (some ⟨g, 0, none⟩) m c) xs := by
  subst hm; exact h.rd (by omega) hc
theorem lent_n (v : Value) (xs : List Int) (w : World) (h : Rd .u8 w v xs) (m : Nat) (hm : xs.length = m) (hl : m ≤ 1000000) :
    Calls Try.prog 22 #[v] w fun e w' => (∃ g tl, e = .returned (.slice (some ⟨g, 0, none⟩) m (m + (4 + tl.length))) ∧ w.heap.size ≤ g ∧ Pic w' g xs (lent4 ++ tl) ∧ m + (4 + tl.length) ≤ maxLen) ∧ Below w.heap.size w w' := by
  subst hm; exact lentBytes_any v xs w h hl
theorem kept_n (g : Nat) (u : Value) (xs : List Int) (tl : List Value) (w : World) (hp : Pic w g xs (lent4 ++ tl)) (hu : Rd .u8 w u xs) (m : Nat) (hm : xs.length = m) (hl : m ≤ 1000000) (hx : m + (4 + tl.length) ≤ maxLen) :
    Calls Try.prog 29 #[.slice (some ⟨g, 0, none⟩) m (m + (4 + tl.length)), u] w fun e w' => e = .returned (.bool true) ∧ Below w.heap.size w w' := by
  subst hm; exact keptBytes_true g u xs tl w hp hu hl hx
theorem lay_n (f g a b : Int) (gb c : Nat) (xs ss : List Int) (tl : List Value) (u : Value) (w : World) (hp : Pic w gb xs tl) (hs : Rd .u8 w u ss) (hsb : ∀ k, u.ownBlock = some k → k ≠ gb) (m n : Nat) (hm : xs.length = m) (hn : ss.length = n) (hl : m ≤ c) (hx : m ≤ 1000000) (ha : -9223372036854775808 ≤ a) (ha2 : a ≤ 9223372036854775807) :
    Calls Try.prog 65 #[.slice (some ⟨gb, 0, none⟩) m c, .agg #[.int .i64 f, .int .i64 g, .int .i64 a], .int .i64 b, u] w fun e w' => e = .returned (.int .i64 (layE f g a m n b)) ∧ Pic w' gb (layL f g a b xs ss) tl ∧ w.grownBy w' (some gb) := by
  subst hm hn; exact lay_any f g a b gb c xs ss tl u w hp hs hsb hl hx ha ha2
theorem rlay_n (f g a b : Int) (gb c : Nat) (xs ss : List Int) (tl : List Value) (u : Value) (w : World) (hp : Pic w gb xs tl) (hs : Rd .u8 w u ss) (hsb : ∀ k, u.ownBlock = some k → k ≠ gb) (m n : Nat) (hm : xs.length = m) (hn : ss.length = n) (hl : m ≤ c) (hx : m ≤ 1000000) (ha : -9223372036854775808 ≤ a) (ha2 : a ≤ 9223372036854775807) :
    Calls Try.prog 66 #[.slice (some ⟨gb, 0, none⟩) m c, .agg #[.int .i64 f, .int .i64 g, .int .i64 a], .int .i64 b, u] w fun e w' => e = .returned (.int .i64 (layE f g a m n b)) ∧ Pic w' gb (layL f g a b xs ss) tl ∧ w.grownBy w' (some gb) := by
  subst hm hn; exact rlay_any f g a b gb c xs ss tl u w hp hs hsb hl hx ha ha2
theorem copy_n (f g a : Int) (gb c : Nat) (xs ys : List Int) (tl : List Value) (u : Value) (w : World) (hp : Pic w gb xs tl) (hs : Rd .u8 w u ys) (hsb : ∀ k, u.ownBlock = some k → k ≠ gb) (m n : Nat) (hm : xs.length = m) (hn : ys.length = n) (hl : m ≤ c) (hx : m ≤ 1000000) (ha : -9223372036854775808 ≤ a) (ha2 : a ≤ 9223372036854775807) :
    Calls Try.prog 56 #[.slice (some ⟨gb, 0, none⟩) m c, u, .agg #[.int .i64 f, .int .i64 g, .int .i64 a]] w fun e w' => e = .returned (.int .i64 (cpE f g a m n)) ∧ Pic w' gb (cpL f g a xs ys) tl ∧ w.grownBy w' (some gb) := by
  subst hm hn; exact copy_any f g a gb c xs ys tl u w hp hs hsb hl hx ha ha2
theorem rcopy_n (f g a : Int) (gb c : Nat) (xs ys : List Int) (tl : List Value) (u : Value) (w : World) (hp : Pic w gb xs tl) (hs : Rd .u8 w u ys) (hsb : ∀ k, u.ownBlock = some k → k ≠ gb) (m n : Nat) (hm : xs.length = m) (hn : ys.length = n) (hl : m ≤ c) (hx : m ≤ 1000000) (ha : -9223372036854775808 ≤ a) (ha2 : a ≤ 9223372036854775807) :
    Calls Try.prog 67 #[.slice (some ⟨gb, 0, none⟩) m c, u, .agg #[.int .i64 f, .int .i64 g, .int .i64 a]] w fun e w' => e = .returned (.int .i64 (cpE f g a m n)) ∧ Pic w' gb (cpL f g a xs ys) tl ∧ w.grownBy w' (some gb) := by
  subst hm hn; exact rcopy_any f g a gb c xs ys tl u w hp hs hsb hl hx ha ha2
theorem own_ne {a : Nat} {m c g : Nat} (h : a ≠ g) : ∀ k, (Value.slice (some ⟨a, 0, none⟩) m c).ownBlock = some k → k ≠ g := fun k hk => by
  simp only [Value.ownBlock, Option.some.injEq] at hk; subst hk; exact h
end
end Go.Proofs.Ytcieggaihelacaa
