/- Layer 13's FrameWhole, walked. -/
import Derived.Test.YtcieggaihelacaaFwb
set_option linter.unusedSimpArgs false
set_option linter.unusedVariables false
namespace Go.Proofs.Ytcieggaihelacaa
open Go.RowKit
set_option maxRecDepth 100000
theorem makeB (n : Nat) (h : n ≤ 1000000) (W : World) : (Instr.makeSlice 62 (.int .i64 n) (.int .i64 n)).run Try.prog W = .ok (.slice (some ⟨W.heap.size, 0, none⟩) n n) (W.alloc (.cells (madeCells #[Value.bool false] n) 4)) :=
  run_make_row' (P := Try.prog) 62 4 (.bool false) 1 Try.underlying62 (by kernel_rfl) rfl .i64 .i64 n (by omega) (by omega) W
theorem picB_zero (w : World) (n : Nat) : PicB (w.alloc (.cells (madeCells #[Value.bool false] n) 4)) w.heap.size (List.replicate n false) := by
  unfold PicB
  rw [World.alloc_heap_new, List.map_replicate, ← toList_madeCells_one]
/-- What the loops of FrameWhole keep. -/
def WH (f : Int) (gb n lb ln lc : Nat) (w : World) (g a b : Int) (wr : World) : Prop := Below w.heap.size w wr ∧ w.heap.size ≤ gb ∧ lb ≠ gb ∧ Rd .i64 wr (.slice (some ⟨lb, 0, none⟩) ln lc) (groupsS f) ∧ ∃ bs, PicB wr gb bs ∧ Mk f g a b n bs
section
variable {f : Int} {gb n lb ln lc : Nat} {w wr w' : World} {g a b : Int}
theorem WH.below (h : WH f gb n lb ln lc w g a b wr) (hb : Below wr.heap.size wr w') : WH f gb n lb ln lc w g a b w' := by
  obtain ⟨h1, h2, h3, h4, bs, h5, h6⟩ := h
  exact ⟨below_nxt h1 hb, h2, h3, h4.below hb, bs, h5.below hb, h6⟩
theorem WH.nextA (h : WH f gb n lb ln lc w g a 7 wr) : WH f gb n lb ln lc w g (a + 1) 1 wr := by
  obtain ⟨h1, h2, h3, h4, bs, h5, h6⟩ := h
  exact ⟨h1, h2, h3, h4, bs, h5, h6.nextA⟩
theorem WH.nextG {k : Int} (h : WH f gb n lb ln lc w g 34 1 wr) (hk : ∀ g' ∈ groupsS f, g' < k ↔ g' ≤ g) : WH f gb n lb ln lc w k 1 1 wr := by
  obtain ⟨h1, h2, h3, h4, bs, h5, h6⟩ := h
  exact ⟨h1, h2, h3, h4, bs, h5, h6.nextG hk⟩
theorem WH.list (h : WH f gb n lb ln lc w g a b wr) {j : Nat} (hj : j < ln) : wr.cell? ⟨lb, j, none⟩ = some (.int .i64 ((groupsS f)[j]?.getD 0)) := by
  rcases h.2.2.2.1 with ⟨e, _⟩ | ⟨b', o, c', e, _, hc, _, hh⟩
  · cases e
  · cases e
    have h2 := hh j hj
    rw [Nat.zero_add] at h2
    exact h2
theorem wh_marks (h : WH f gb n lb ln lc w g a b wr) (hf : f = 0 ∨ f = 1) (hg : g ∈ groupsS f) (ha : 1 ≤ a ∧ a ≤ 33) (hb : 1 ≤ b ∧ b ≤ 6) (hn : (n : Int) = bytesS f) (hn1 : n ≤ 1000000) :
    Calls Try.prog 54 #[.slice (some ⟨gb, 0, none⟩) n n, .int .i64 (plcV f (cornerX f g a) (cornerY g a) b), .int .i64 (plcS f b)] wr fun e w' => e = .returned (.bool true) ∧ WH f gb n lb ln lc w g a (b + 1) w' := by
  obtain ⟨h1, h2, h3, h4, bs, h5, h6⟩ := h
  have hc := corn_zero hf hg ha
  have hq : ∀ i : Nat, i < 64 → (layQ f g a b i : Int) = plcV f (cornerX f g a) (cornerY g a) b + (i : Int) / 8 * plcS f b + (i : Int) % 8 ∧ layQ f g a b i < n := fun i hi => by
    obtain ⟨e1, e2⟩ := layQ_is hc hn hb hi
    rw [fetI_0] at e1
    exact ⟨e1, e2⟩
  have h0 := hq 0 (by decide)
  have hV : 0 ≤ plcV f (cornerX f g a) (cornerY g a) b ∧ plcV f (cornerX f g a) (cornerY g a) b ≤ 1000000 := by
    have e : ((0 : Nat) : Int) / 8 * plcS f b = 0 := by rw [show ((0 : Nat) : Int) / 8 = 0 by decide, Int.zero_mul]
    rw [e] at h0
    omega
  refine (marks_any _ _ gb n (layQ f g a b) bs wr h5 h6.1 hn1 (plcS_is' hf) hV hq (fun i j hi hj e => (layQ_inj hf hg ha hb hi hg ha hb hj e).2.2.2) (fun i hi => (h6.2 g a b i hg ha hb hi).2 (by unfold Lexl; omega))).mono ?_
  rintro e w' ⟨rfl, hp, hgr⟩
  refine ⟨rfl, h1.grown hgr h1.size (fun j e => by cases e; exact h2), h2, h3, h4.grown hgr (fun k hk e => ?_), _, hp, h6.step hf hg ha hb hn⟩
  simp only [Value.ownBlock, Option.some.injEq] at hk
  cases e
  exact h3 hk
theorem place_ok (f g a b : Int) (w : World) (hf : f = 0 ∨ f = 1) (hg : g ∈ groupsS f) (ha : 1 ≤ a ∧ a ≤ 33) (hb : 1 ≤ b ∧ b ≤ 6) :
    Calls Try.prog 48 #[.int .i64 f, .int .i64 g, .int .i64 a, .int .i64 b] w fun e w' => e = .returned (.tuple #[.int .i64 (plcV f (cornerX f g a) (cornerY g a) b), .int .i64 (plcS f b), .int .i64 0]) ∧ Below w.heap.size w w' := by
  obtain ⟨e1, e2, e3⟩ := pl_val hf hg ha hb
  have h := place_any f g a b w (by omega) (by omega)
  rw [e1, e2, e3] at h
  exact h
end
def grpF (f : Int) (j : Nat) : Int := if f = 0 then (if j = 0 then 0 else 2 * j - 1) else j
def gxF (f : Int) (j : Nat) : Int := if f = 0 then 2 * j + 1 else j + 1
theorem own_list {w w' : World} {v : Value} {n : Nat} {xs : List Value} (h : w'.ownsRow w.heap.size 3 1 v (n + 1) xs) : ∃ lb lc, v = .slice (some ⟨lb, 0, none⟩) (n + 1) lc ∧ lb < w'.heap.size := by
  rcases owns_blk h with ⟨_, h0, _⟩ | ⟨g, cap, cur, e, _, hh, _⟩
  · cases h0
  · exact ⟨g, cap, e, blk_lt hh⟩
theorem whole_facts_0 : (∀ j, j < 3 → nextE 0 (grpF 0 j) = 0 ∧ nextV 0 (grpF 0 j) = gxF 0 j ∧ (groupsS 0)[j]?.getD 0 = gxF 0 j ∧ gxF 0 j ∈ groupsS 0 ∧ grpF 0 (j + 1) = gxF 0 j ∧ ∀ g' ∈ groupsS 0, g' < gxF 0 (j + 1) ↔ g' ≤ gxF 0 j) ∧ nextE 0 (grpF 0 3) = 0 ∧ nextV 0 (grpF 0 3) = 0 ∧ (∀ g' ∈ groupsS 0, g' < gxF 0 3) ∧ gxF 0 0 = 1 ∧ grpF 0 0 = 0 ∧ bytesS 0 = 38016 ∧ fmtE 0 = 0 ∧ (groupsS 0).length = 3 := by decide
set_option maxHeartbeats 8000000 in
theorem frameWhole_0 (w : World) : Calls Try.prog 11 #[.bool false] w fun e w' => e = .returned (.bool true) ∧ Below w.heap.size w w' := by
  have HW := Lib.hid whole_facts_0
  have hmk : ∀ W : World, (Instr.makeSlice 62 (.int .i64 38016) (.int .i64 38016)).run Try.prog W = .ok (.slice (some ⟨W.heap.size, 0, none⟩) 38016 38016) (W.alloc (.cells (madeCells #[Value.bool false] 38016) 4)) := makeB 38016 (by decide)
  have HG0 := Lib.hid whole_facts_0.2.2.2.2.2.1
  go_enter Try.func11, Try.ntmps11
  go_wp2_with (first
    | (go_at_call 10; refine (frameKnown_any _).mono ?_; rintro e w1 ⟨rfl, hb1⟩; have HB1 := Lib.hid hb1; clear hb1)
    | (go_at_call 37; refine (size_any 0 _).mono ?_; rw [HW.out.2.2.2.2.2.2.1, HW.out.2.2.2.2.2.2.2.1]; rintro e w' ⟨rfl, rfl⟩)
    | (go_at_call 39; refine (Groups_any 0 _).mono ?_; rw [HW.out.2.2.2.2.2.2.2.1, HW.out.2.2.2.2.2.2.2.2]; rintro e w2 ⟨⟨v, rfl, hv⟩, hb2⟩; have hrd := Rd.of_owns (xs := groupsS 0) (by rw [HW.out.2.2.2.2.2.2.2.2]; exact hv) (by rw [HW.out.2.2.2.2.2.2.2.2]; decide); obtain ⟨lb, lc, rfl, hlb⟩ := own_list hv; have hll := HW.out.2.2.2.2.2.2.2.2; have HRD := Lib.hid hrd; have HLB := Lib.hid hlb; have HB2 := Lib.hid (below_nxt HB1.out hb2); clear hv hrd hlb hb2 hll))
  have hwh : WH 0 w2.heap.size 38016 lb 3 lc w (gxF 0 0) 1 1 (w2.alloc (.cells (madeCells #[Value.bool false] 38016) 4)) := ⟨HB2.out.alloc HB2.out.size _, HB2.out.size, by have := HLB.out; omega, HRD.out.alloc _, _, picB_zero w2 38016, by rw [HW.out.2.2.2.2.1]; exact Mk.start 0 38016⟩
  have HWH := Lib.hid hwh
  clear hwh
  go_loopw [12, 13, 14, 15, 16, 17, 18, 19, 20] (fun gr i _ _ _ _ _ _ _ wr => ∃ j : Nat, j ≤ 3 ∧ i = .int .i64 j ∧ gr = .int .i64 (grpF 0 j) ∧ WH 0 w2.heap.size 38016 lb 3 lc w (gxF 0 j) 1 1 wr) (fun _ i _ _ _ _ _ _ _ _ => 20 - (intOf i).toNat)
  case atStart => exact ⟨0, by omega, rfl, by rw [HG0.out], HWH.out⟩
  case round =>
    obtain ⟨j, hj, rfl, rfl, hwh⟩ := hrel
    by_cases hlt : j < 3
    · have hlt' : (j : Int) < 3 := by omega
      obtain ⟨q1, q2, q3, q4, q5, q6⟩ := HW.out.1 j hlt
      obtain ⟨P, hP⟩ : ∃ P, grpF 0 j = P := ⟨_, rfl⟩
      obtain ⟨G, hG⟩ : ∃ G, gxF 0 j = G := ⟨_, rfl⟩
      rw [hP] at q1 q2 ⊢
      rw [hG] at q2 q3 q4 q5 q6 hwh
      have HQ := Lib.hid (And.intro q1 q2)
      have HG := Lib.hid q4
      have HE := Lib.hid (And.intro q5 q6)
      have HS := Lib.hid hwh
      have HL3 := Lib.hid q3
      clear q1 q2 q3 q4 q5 q6 hP hG hwh
      go_wp2_with (go_at_call 41; refine (Next_any 0 P _).mono ?_; rw [HQ.out.1, HQ.out.2]; rintro e w3 ⟨rfl, hb3⟩; have T0 := Lib.hid (HS.out.below hb3); clear hb3; have cl := T0.out.list (j := j) hlt; rw [HL3.out] at cl)
      go_loopw [16, 17, 18, 19, 20] (fun i _ _ _ _ wr => ∃ k : Nat, 1 ≤ k ∧ k ≤ 34 ∧ i = .int .i64 k ∧ WH 0 w2.heap.size 38016 lb 3 lc w G k 1 wr) (fun i _ _ _ _ _ => 40 - (intOf i).toNat)
      case atStart => exact ⟨1, by omega, by omega, rfl, T0.out⟩
      case round =>
        obtain ⟨k, hk1, hk2, rfl, hwk⟩ := hrel
        by_cases hk : k ≤ 33
        · have hk' : (k : Int) ≤ 33 := by omega
          clear cl
          go_wp2
          go_loopw [17, 18, 19, 20] (fun i _ _ _ wr => ∃ b : Nat, 1 ≤ b ∧ b ≤ 7 ∧ i = .int .i64 b ∧ WH 0 w2.heap.size 38016 lb 3 lc w G k b wr) (fun i _ _ _ _ => 10 - (intOf i).toNat)
          case atStart => exact ⟨1, by omega, by omega, rfl, hwk⟩
          case round =>
            obtain ⟨b, hb1, hb2, rfl, hwb⟩ := hrel
            by_cases hb : b ≤ 6
            · have hb' : (b : Int) ≤ 6 := by omega
              have U0 := Lib.hid hwb
              clear hwb hwk
              go_wp2_with (first
                | (go_at_call 48; refine (place_ok 0 G k b _ (by decide) HG.out (by omega) (by omega)).mono ?_; rintro e w4 ⟨rfl, hb4⟩; have U1 := Lib.hid (U0.out.below hb4); clear hb4; generalize hV : plcV 0 (cornerX 0 G k) (cornerY G k) b = V; generalize hS : plcS 0 b = S; have HVS := Lib.hid (And.intro hV hS); clear hV hS)
                | (go_at_call 54; have hm := wh_marks U1.out (by decide) HG.out (by omega) (by omega) (by decide) (by decide); rw [HVS.out.1, HVS.out.2] at hm; refine hm.mono ?_; clear hm; rintro e w5 ⟨rfl, hw5⟩; have U2 := Lib.hid hw5; clear hw5))
              go_roundw
              case rel => exact ⟨b + 1, by omega, by omega, by go_num, by rw [show (((b + 1 : Nat) : Int)) = (b : Int) + 1 by omega]; exact U2.out⟩
              case measure => simp [intOf]; omega
            · have e : b = 7 := by omega
              subst e
              go_wp2
              go_roundw
              case rel => exact ⟨k + 1, by omega, by omega, by go_num, by rw [show (((k + 1 : Nat) : Int)) = (k : Int) + 1 by omega]; exact WH.nextA hwb⟩
              case measure => simp [intOf]; omega
        · have e : k = 34 := by omega
          subst e
          go_wp2
          go_roundw
          case rel => exact ⟨j + 1, by omega, by go_num, by rw [HE.out.1], WH.nextG hwk HE.out.2⟩
          case measure => simp [intOf]; omega
    · have e : j = 3 := by omega
      subst e
      obtain ⟨P, hP⟩ : ∃ P, grpF 0 3 = P := ⟨_, rfl⟩
      rw [hP]
      have hPn : nextV 0 P = 0 ∧ nextE 0 P = 0 := by rw [← hP]; exact ⟨HW.out.2.2.1, HW.out.2.1⟩
      have HPN := Lib.hid hPn
      have HBE := Lib.hid hwh.1
      obtain ⟨_, _, _, _, bs, hpb, hmk2⟩ := hwh
      have HPB := Lib.hid hpb
      have HMK := Lib.hid hmk2
      clear hP hPn hpb hmk2
      go_wp2
      go_loop [21] (fun i => ∃ k : Nat, k ≤ 38016 ∧ i = .int .i64 k) (fun i => 38016 - (intOf i).toNat)
      case atStart => exact ⟨0, by omega, rfl⟩
      case round =>
        obtain ⟨k, hk, rfl⟩ := hrel
        by_cases hlt2 : k < 38016
        · have hlt2' : (k : Int) < 38016 := by omega
          have ck := HPB.out.cell (i := k) (by rw [HMK.out.1]; exact hlt2)
          rw [HMK.out.all (by decide) (by decide) HW.out.2.2.2.1 k hlt2] at ck
          go_wp2
          go_round
          case rel => exact ⟨k + 1, by omega, by go_num⟩
          case measure => simp [intOf]; omega
        · have e : k = 38016 := by omega
          subst e
          go_wp2_with (go_at_call 51; refine (next_true 0 P 0 0 _ HPN.out.1 HPN.out.2).mono ?_; rintro e w9 ⟨rfl, hb9⟩; have HB9 := Lib.hid (below_nxt HBE.out hb9); clear hb9)
          go_ret
          exact ⟨rfl, HB9.out⟩
theorem whole_facts_1 : (∀ j, j < 12 → nextE 1 (grpF 1 j) = 0 ∧ nextV 1 (grpF 1 j) = gxF 1 j ∧ (groupsS 1)[j]?.getD 0 = gxF 1 j ∧ gxF 1 j ∈ groupsS 1 ∧ grpF 1 (j + 1) = gxF 1 j ∧ ∀ g' ∈ groupsS 1, g' < gxF 1 (j + 1) ↔ g' ≤ gxF 1 j) ∧ nextE 1 (grpF 1 12) = 0 ∧ nextV 1 (grpF 1 12) = 0 ∧ (∀ g' ∈ groupsS 1, g' < gxF 1 12) ∧ gxF 1 0 = 1 ∧ grpF 1 0 = 0 ∧ bytesS 1 = 152064 ∧ fmtE 1 = 0 ∧ (groupsS 1).length = 12 := by decide
set_option maxHeartbeats 8000000 in
theorem frameWhole_1 (w : World) : Calls Try.prog 11 #[.bool true] w fun e w' => e = .returned (.bool true) ∧ Below w.heap.size w w' := by
  have HW := Lib.hid whole_facts_1
  have hmk : ∀ W : World, (Instr.makeSlice 62 (.int .i64 152064) (.int .i64 152064)).run Try.prog W = .ok (.slice (some ⟨W.heap.size, 0, none⟩) 152064 152064) (W.alloc (.cells (madeCells #[Value.bool false] 152064) 4)) := makeB 152064 (by decide)
  have HG0 := Lib.hid whole_facts_1.2.2.2.2.2.1
  go_enter Try.func11, Try.ntmps11
  go_wp2_with (first
    | (go_at_call 10; refine (frameKnown_any _).mono ?_; rintro e w1 ⟨rfl, hb1⟩; have HB1 := Lib.hid hb1; clear hb1)
    | (go_at_call 37; refine (size_any 1 _).mono ?_; rw [HW.out.2.2.2.2.2.2.1, HW.out.2.2.2.2.2.2.2.1]; rintro e w' ⟨rfl, rfl⟩)
    | (go_at_call 39; refine (Groups_any 1 _).mono ?_; rw [HW.out.2.2.2.2.2.2.2.1, HW.out.2.2.2.2.2.2.2.2]; rintro e w2 ⟨⟨v, rfl, hv⟩, hb2⟩; have hrd := Rd.of_owns (xs := groupsS 1) (by rw [HW.out.2.2.2.2.2.2.2.2]; exact hv) (by rw [HW.out.2.2.2.2.2.2.2.2]; decide); obtain ⟨lb, lc, rfl, hlb⟩ := own_list hv; have hll := HW.out.2.2.2.2.2.2.2.2; have HRD := Lib.hid hrd; have HLB := Lib.hid hlb; have HB2 := Lib.hid (below_nxt HB1.out hb2); clear hv hrd hlb hb2 hll))
  have hwh : WH 1 w2.heap.size 152064 lb 12 lc w (gxF 1 0) 1 1 (w2.alloc (.cells (madeCells #[Value.bool false] 152064) 4)) := ⟨HB2.out.alloc HB2.out.size _, HB2.out.size, by have := HLB.out; omega, HRD.out.alloc _, _, picB_zero w2 152064, by rw [HW.out.2.2.2.2.1]; exact Mk.start 1 152064⟩
  have HWH := Lib.hid hwh
  clear hwh
  go_loopw [12, 13, 14, 15, 16, 17, 18, 19, 20] (fun gr i _ _ _ _ _ _ _ wr => ∃ j : Nat, j ≤ 12 ∧ i = .int .i64 j ∧ gr = .int .i64 (grpF 1 j) ∧ WH 1 w2.heap.size 152064 lb 12 lc w (gxF 1 j) 1 1 wr) (fun _ i _ _ _ _ _ _ _ _ => 20 - (intOf i).toNat)
  case atStart => exact ⟨0, by omega, rfl, by rw [HG0.out], HWH.out⟩
  case round =>
    obtain ⟨j, hj, rfl, rfl, hwh⟩ := hrel
    by_cases hlt : j < 12
    · have hlt' : (j : Int) < 12 := by omega
      obtain ⟨q1, q2, q3, q4, q5, q6⟩ := HW.out.1 j hlt
      obtain ⟨P, hP⟩ : ∃ P, grpF 1 j = P := ⟨_, rfl⟩
      obtain ⟨G, hG⟩ : ∃ G, gxF 1 j = G := ⟨_, rfl⟩
      rw [hP] at q1 q2 ⊢
      rw [hG] at q2 q3 q4 q5 q6 hwh
      have HQ := Lib.hid (And.intro q1 q2)
      have HG := Lib.hid q4
      have HE := Lib.hid (And.intro q5 q6)
      have HS := Lib.hid hwh
      have HL3 := Lib.hid q3
      clear q1 q2 q3 q4 q5 q6 hP hG hwh
      go_wp2_with (go_at_call 41; refine (Next_any 1 P _).mono ?_; rw [HQ.out.1, HQ.out.2]; rintro e w3 ⟨rfl, hb3⟩; have T0 := Lib.hid (HS.out.below hb3); clear hb3; have cl := T0.out.list (j := j) hlt; rw [HL3.out] at cl)
      go_loopw [16, 17, 18, 19, 20] (fun i _ _ _ _ wr => ∃ k : Nat, 1 ≤ k ∧ k ≤ 34 ∧ i = .int .i64 k ∧ WH 1 w2.heap.size 152064 lb 12 lc w G k 1 wr) (fun i _ _ _ _ _ => 40 - (intOf i).toNat)
      case atStart => exact ⟨1, by omega, by omega, rfl, T0.out⟩
      case round =>
        obtain ⟨k, hk1, hk2, rfl, hwk⟩ := hrel
        by_cases hk : k ≤ 33
        · have hk' : (k : Int) ≤ 33 := by omega
          clear cl
          go_wp2
          go_loopw [17, 18, 19, 20] (fun i _ _ _ wr => ∃ b : Nat, 1 ≤ b ∧ b ≤ 7 ∧ i = .int .i64 b ∧ WH 1 w2.heap.size 152064 lb 12 lc w G k b wr) (fun i _ _ _ _ => 10 - (intOf i).toNat)
          case atStart => exact ⟨1, by omega, by omega, rfl, hwk⟩
          case round =>
            obtain ⟨b, hb1, hb2, rfl, hwb⟩ := hrel
            by_cases hb : b ≤ 6
            · have hb' : (b : Int) ≤ 6 := by omega
              have U0 := Lib.hid hwb
              clear hwb hwk
              go_wp2_with (first
                | (go_at_call 48; refine (place_ok 1 G k b _ (by decide) HG.out (by omega) (by omega)).mono ?_; rintro e w4 ⟨rfl, hb4⟩; have U1 := Lib.hid (U0.out.below hb4); clear hb4; generalize hV : plcV 1 (cornerX 1 G k) (cornerY G k) b = V; generalize hS : plcS 1 b = S; have HVS := Lib.hid (And.intro hV hS); clear hV hS)
                | (go_at_call 54; have hm := wh_marks U1.out (by decide) HG.out (by omega) (by omega) (by decide) (by decide); rw [HVS.out.1, HVS.out.2] at hm; refine hm.mono ?_; clear hm; rintro e w5 ⟨rfl, hw5⟩; have U2 := Lib.hid hw5; clear hw5))
              go_roundw
              case rel => exact ⟨b + 1, by omega, by omega, by go_num, by rw [show (((b + 1 : Nat) : Int)) = (b : Int) + 1 by omega]; exact U2.out⟩
              case measure => simp [intOf]; omega
            · have e : b = 7 := by omega
              subst e
              go_wp2
              go_roundw
              case rel => exact ⟨k + 1, by omega, by omega, by go_num, by rw [show (((k + 1 : Nat) : Int)) = (k : Int) + 1 by omega]; exact WH.nextA hwb⟩
              case measure => simp [intOf]; omega
        · have e : k = 34 := by omega
          subst e
          go_wp2
          go_roundw
          case rel => exact ⟨j + 1, by omega, by go_num, by rw [HE.out.1], WH.nextG hwk HE.out.2⟩
          case measure => simp [intOf]; omega
    · have e : j = 12 := by omega
      subst e
      obtain ⟨P, hP⟩ : ∃ P, grpF 1 12 = P := ⟨_, rfl⟩
      rw [hP]
      have hPn : nextV 1 P = 0 ∧ nextE 1 P = 0 := by rw [← hP]; exact ⟨HW.out.2.2.1, HW.out.2.1⟩
      have HPN := Lib.hid hPn
      have HBE := Lib.hid hwh.1
      obtain ⟨_, _, _, _, bs, hpb, hmk2⟩ := hwh
      have HPB := Lib.hid hpb
      have HMK := Lib.hid hmk2
      clear hP hPn hpb hmk2
      go_wp2
      go_loop [21] (fun i => ∃ k : Nat, k ≤ 152064 ∧ i = .int .i64 k) (fun i => 152064 - (intOf i).toNat)
      case atStart => exact ⟨0, by omega, rfl⟩
      case round =>
        obtain ⟨k, hk, rfl⟩ := hrel
        by_cases hlt2 : k < 152064
        · have hlt2' : (k : Int) < 152064 := by omega
          have ck := HPB.out.cell (i := k) (by rw [HMK.out.1]; exact hlt2)
          rw [HMK.out.all (by decide) (by decide) HW.out.2.2.2.1 k hlt2] at ck
          go_wp2
          go_round
          case rel => exact ⟨k + 1, by omega, by go_num⟩
          case measure => simp [intOf]; omega
        · have e : k = 152064 := by omega
          subst e
          go_wp2_with (go_at_call 51; refine (next_true 1 P 0 0 _ HPN.out.1 HPN.out.2).mono ?_; rintro e w9 ⟨rfl, hb9⟩; have HB9 := Lib.hid (below_nxt HBE.out hb9); clear hb9)
          go_ret
          exact ⟨rfl, HB9.out⟩
end Go.Proofs.Ytcieggaihelacaa
