/- The contract of the program's Lay: refused, or the block's samples are laid into the picture. -/
import Derived.Test.YtcieggaihelacaaPe
import Derived.Test.YtcieggaihelacaaMok
set_option linter.unusedSimpArgs false
set_option linter.unusedVariables false
namespace Go.Proofs.Ytcieggaihelacaa
open Go.RowKit Go.Shelf
set_option maxRecDepth 100000
attribute [local go_sem] Oper.semAt_some
theorem plcS_is' {f b : Int} (hf : f = 0 ∨ f = 1) : plcS f b = 88 ∨ plcS f b = 176 ∨ plcS f b = 352 := by
  unfold plcS
  rcases hf with rfl | rfl
  · have e1 : wideS 0 = 176 := rfl
    rw [e1]; split <;> omega
  · have e1 : wideS 1 = 352 := rfl
    rw [e1]; split <;> omega
theorem fetI_inj' {f g a b x y : Int} (hf : f = 0 ∨ f = 1) {k j : Nat} (hk : k < 64) (hj : j < 64) (h : fetI f g a b x y k = fetI f g a b x y j) : k = j := by
  unfold fetI at h
  generalize plcV f (cornerX f g a) (cornerY g a) b = V at h
  generalize sxS b x = sx at h
  generalize sxS b y = sy at h
  rcases plcS_is' (f := f) (b := b) hf with e | e | e <;> rw [e] at h <;> omega
def layQ (f g a b : Int) (i : Nat) : Nat := (fetI f g a b 0 0 i).toNat
def layE (f g a : Int) (n m : Nat) (b : Int) : Int := if cornE f g a = 0 then (if (n : Int) = bytesS f ∧ m = 64 then plE f g a b else 2) else cornE f g a
def layL (f g a b : Int) (xs ss : List Int) : List Int := if layE f g a xs.length ss.length b = 0 then put (layQ f g a b) (fun i => ss[i]?.getD 0) 64 xs else xs
theorem lay_cases (f g a b : Int) (n m : Nat) :
    (cornE f g a ≠ 0 ∧ layE f g a n m b = cornE f g a) ∨
    (cornE f g a = 0 ∧ (n : Int) ≠ bytesS f ∧ layE f g a n m b = 2) ∨
    (cornE f g a = 0 ∧ (n : Int) = bytesS f ∧ m ≠ 64 ∧ layE f g a n m b = 2) ∨
    (cornE f g a = 0 ∧ (n : Int) = bytesS f ∧ m = 64 ∧ ¬ (1 ≤ b ∧ b ≤ 6) ∧ plE f g a b = 3 ∧ layE f g a n m b = 3) ∨
    (cornE f g a = 0 ∧ (n : Int) = bytesS f ∧ m = 64 ∧ (1 ≤ b ∧ b ≤ 6) ∧ plE f g a b = 0 ∧ layE f g a n m b = 0) := by
  unfold layE plE
  by_cases h1 : cornE f g a = 0
  · by_cases h2 : (n : Int) = bytesS f
    · by_cases h3 : m = 64
      · by_cases h4 : 1 ≤ b ∧ b ≤ 6
        · exact .inr (.inr (.inr (.inr ⟨h1, h2, h3, h4, by rw [if_pos h1, if_pos h4], by rw [if_pos h1, if_pos ⟨h2, h3⟩, if_pos h1, if_pos h4]⟩)))
        · exact .inr (.inr (.inr (.inl ⟨h1, h2, h3, h4, by rw [if_pos h1, if_neg h4], by rw [if_pos h1, if_pos ⟨h2, h3⟩, if_pos h1, if_neg h4]⟩)))
      · exact .inr (.inr (.inl ⟨h1, h2, h3, by rw [if_pos h1, if_neg (fun h => h3 h.2)]⟩))
    · exact .inr (.inl ⟨h1, h2, by rw [if_pos h1, if_neg (fun h => h2 h.1)]⟩)
  · exact .inl ⟨h1, by rw [if_neg h1]⟩
theorem layL_none {f g a b : Int} {xs ss : List Int} (h : layE f g a xs.length ss.length b ≠ 0) : layL f g a b xs ss = xs := by unfold layL; rw [if_neg h]
theorem fetI_0 (f g a b : Int) (i : Nat) : fetI f g a b 0 0 i = plcV f (cornerX f g a) (cornerY g a) b + (i : Int) / 8 * plcS f b + (i : Int) % 8 := by
  have h0 : halfS 0 = 0 := by decide
  unfold fetI sxS
  rw [h0]
  simp
theorem layQ_is {f g a b : Int} {n : Nat} (hc : cornE f g a = 0) (hl : (n : Int) = bytesS f) (hb : 1 ≤ b ∧ b ≤ 6) {i : Nat} (hi : i < 64) : (layQ f g a b i : Int) = fetI f g a b 0 0 i ∧ layQ f g a b i < n := by
  obtain ⟨hf, hg, ha3, hX, hY⟩ := corn_ok hc
  obtain ⟨x0, x1, y0, y1⟩ := corner_bd hf hg ha3
  have hfit : fitsE f g a 0 0 = 0 := by
    unfold fitsE; rw [if_pos hc, if_pos (by decide), if_pos (by omega)]
  have h := fetI_in (x := 0) (y := 0) hc hl hb hfit hi
  unfold layQ
  omega
set_option maxHeartbeats 2000000 in
theorem lay_bad (f g a b : Int) (gb n c : Nat) (u : Value) (ss : List Int) (w : World) (hs : Rd .u8 w u ss) (hl : n ≤ 140737488351232) (ha : -9223372036854775808 ≤ a) (ha2 : a ≤ 9223372036854775807) (hne : layE f g a n ss.length b ≠ 0) :
    Calls Try.prog 65 #[.slice (some ⟨gb, 0, none⟩) n c, .agg #[.int .i64 f, .int .i64 g, .int .i64 a], .int .i64 b, u] w fun e w' => e = .returned (.int .i64 (layE f g a n ss.length b)) ∧ Below w.heap.size w w' := by
  refine (callsIn_wide (n := 0)).1 ?_
  have hwf : ∀ f, Fence.wide.fn f := fun _ => trivial
  have hwd : Fence.wide.depth = none := rfl
  have hsl := hs.len
  obtain ⟨ua, uc, rfl⟩ := hs.form
  obtain ⟨m, hm⟩ : ∃ m, ss.length = m := ⟨_, rfl⟩
  rw [hm] at hne hsl ⊢
  clear hs hm
  have hB := ((Below.refl w.heap.size w).alloc (Nat.le_refl _) (Obj.cells #[.int .i64 f, .int .i64 g, .int .i64 a] 23)).alloc (by simp) (Obj.cells #[.slice ua m uc] 24)
  have hL := ((Lies.nil w).alloc (Obj.cells #[.int .i64 f, .int .i64 g, .int .i64 a] 23)).alloc (Obj.cells #[.slice ua m uc] 24)
  simp only [World.size_alloc] at hL
  have HB := Lib.hid hB
  have HL := Lib.hid hL
  clear hB hL
  have hpc := pcorner_any f g a
  have HPC := Lib.hid hpc
  clear hpc
  rcases lay_cases f g a b n m with ⟨hc, e⟩ | ⟨hc, h1, e⟩ | ⟨hc, h1, h2, e⟩ | ⟨hc, h1, h2, h3, hp, e⟩ | ⟨_, _, _, _, _, e⟩
  · rw [e]; clear e hne
    have ht : (cornE f g a != 0) = true := by simpa using hc
    rw [if_neg hc] at HPC
    clear hc
    (refine callsIn_of_wp_marks Try.func65 rfl trivial ?_ rfl; simp only [Try.ntmps65, List.size_toArray, List.length_cons, List.length_nil, Nat.reduceAdd, Nat.reduceSub, Array.replicate_succ, Array.replicate_zero, List.push_toArray, List.append_toArray, List.nil_append, List.cons_append])
    gi_wp2_with (gi_at_call 89; refine (callsIn_wide.2 (HPC.out _ ha ha2)).mono ?_; rintro e w1 ⟨rfl, hb1⟩; have HB1 := Lib.hid (below_nxt HB.out hb1); clear hb1)
    exact ⟨_, by simp [results, Try.results65, go_sem], rfl, HB1.out⟩
  · rw [e]; clear e hne
    have ht : ((n : Int) != bytesS f) = true := by simpa using h1
    rw [if_pos hc, hc] at HPC
    clear hc h1
    (refine callsIn_of_wp_marks Try.func65 rfl trivial ?_ rfl; simp only [Try.ntmps65, List.size_toArray, List.length_cons, List.length_nil, Nat.reduceAdd, Nat.reduceSub, Array.replicate_succ, Array.replicate_zero, List.push_toArray, List.append_toArray, List.nil_append, List.cons_append])
    gi_wp2_with (gi_at_call 89; refine (callsIn_wide.2 (HPC.out _ ha ha2)).mono ?_; rintro e w1 ⟨rfl, hb1⟩; have HB1 := Lib.hid (below_nxt HB.out hb1); clear hb1)
    exact ⟨_, by simp [results, Try.results65, go_sem], rfl, HB1.out⟩
  · rw [e]; clear e hne
    have ht : ((n : Int) != bytesS f) = false := by simpa using h1
    have ht2 : ((m : Int) != 64) = true := by simp; omega
    rw [if_pos hc, hc] at HPC
    clear hc h1 h2
    (refine callsIn_of_wp_marks Try.func65 rfl trivial ?_ rfl; simp only [Try.ntmps65, List.size_toArray, List.length_cons, List.length_nil, Nat.reduceAdd, Nat.reduceSub, Array.replicate_succ, Array.replicate_zero, List.push_toArray, List.append_toArray, List.nil_append, List.cons_append])
    gi_wp2_with (gi_at_call 89; refine (callsIn_wide.2 (HPC.out _ ha ha2)).mono ?_; rintro e w1 ⟨rfl, hb1⟩; have HB1 := Lib.hid (below_nxt HB.out hb1); have k1 := (HL.out.next hb1).head; have cs := blk_cell k1 0; simp only [List.getElem?_toArray, List.getElem?_cons_zero] at cs; clear hb1 k1)
    exact ⟨_, by simp [results, Try.results65, go_sem], rfl, HB1.out⟩
  · rw [e]; clear e hne
    have ht : ((n : Int) != bytesS f) = false := by simpa using h1
    subst h2
    rw [if_pos hc, hc] at HPC
    have HP := Lib.hid hp
    clear hc h1 h3 hp
    (refine callsIn_of_wp_marks Try.func65 rfl trivial ?_ rfl; simp only [Try.ntmps65, List.size_toArray, List.length_cons, List.length_nil, Nat.reduceAdd, Nat.reduceSub, Array.replicate_succ, Array.replicate_zero, List.push_toArray, List.append_toArray, List.nil_append, List.cons_append])
    gi_wp2_with (first
      | (gi_at_call 89; refine (callsIn_wide.2 (HPC.out _ ha ha2)).mono ?_; rintro e w1 ⟨rfl, hb1⟩; have HB1 := Lib.hid (below_nxt HB.out hb1); have HL1 := HL.out.next hb1; have cs := blk_cell HL1.head 0; have k0 := HL1.tail.head; have c0 := blk_cell k0 0; have c1 := blk_cell k0 1; have c2 := blk_cell k0 2; simp only [List.getElem?_toArray, List.getElem?_cons_zero, List.getElem?_cons_succ] at cs c0 c1 c2; clear hb1 HL1 k0)
      | (gi_at_call 48; refine (callsIn_wide.2 (place_any _ _ _ _ _ ha ha2)).mono ?_; rw [HP.out]; rintro e w2 ⟨rfl, hb2⟩; have HB2 := Lib.hid (below_nxt HB1.out hb2); clear hb2))
    exact ⟨_, by simp [results, Try.results65, go_sem], rfl, HB2.out⟩
  · exact absurd e hne
end Go.Proofs.Ytcieggaihelacaa
