/- The document's Lay: where it refuses; the samples laid one by one. -/
import Derived.Test.YtcieggaihelacaaPg
set_option linter.unusedSimpArgs false
set_option linter.unusedVariables false
namespace Go.Proofs.Ytcieggaihelacaa
open Go.RowKit
set_option maxRecDepth 100000
def refE (f g a : Int) (ns : List Int) : Int := if cornE f g a = 0 then (if ∀ x ∈ ns, x = bytesS f then 0 else 2) else cornE f g a
set_option maxHeartbeats 1000000 in
theorem refuses_any (f g a : Int) (v : Value) (ns : List Int) (w : World) (h : Rd .i64 w v ns) (ha : -9223372036854775808 ≤ a) (ha2 : a ≤ 9223372036854775807) :
    Calls Try.prog 93 #[.agg #[.int .i64 f, .int .i64 g, .int .i64 a], v] w fun e w' => e = .returned (.int .i64 (refE f g a ns)) ∧ Below w.heap.size w w' := by
  have hB := (Below.refl w.heap.size w).alloc (Nat.le_refl _) (Obj.cells #[.int .i64 f, .int .i64 g, .int .i64 a] 23)
  have hL := (Lies.nil w).alloc (Obj.cells #[.int .i64 f, .int .i64 g, .int .i64 a] 23)
  have HB := Lib.hid hB
  have HL := Lib.hid hL
  have hlen := h.len
  obtain ⟨va, vc, rfl⟩ := h.form
  have HH := Lib.hid h
  obtain ⟨n, hn⟩ : ∃ n, ns.length = n := ⟨_, rfl⟩
  have HN := Lib.hid hn
  rw [hn] at hlen HH ⊢
  clear hB hL h hn
  by_cases hc : cornE f g a = 0
  · obtain ⟨S, hS⟩ : ∃ S, bytesS f = S := ⟨_, rfl⟩
    have HC := Lib.hid hc
    have HS := Lib.hid hS
    by_cases hall : ∀ x ∈ ns, x = S
    · have hE : refE f g a ns = 0 := by unfold refE; rw [if_pos hc, hS, if_pos hall]
      rw [hE]
      have HA := Lib.hid hall
      clear hc hS hall hE
      go_enter Try.func93, Try.ntmps93
      go_wp2_with (first
        | (go_at_call 47; refine (rCorner_any _ _ _ _ ha ha2).mono ?_; rw [HC.out]; rintro e w1 ⟨rfl, hb1⟩; have HB1 := Lib.hid (below_nxt HB.out hb1); have HH1 := Lib.hid ((HH.out.alloc _).below hb1); have k0 := (HL.out.next hb1).head; have c0 := blk_cell k0 0; have c1 := blk_cell k0 1; have c2 := blk_cell k0 2; simp only [List.getElem?_toArray, List.getElem?_cons_zero, List.getElem?_cons_succ] at c0 c1 c2; clear k0 hb1)
        | (go_at_call 38; refine (rsize_any _ _).mono ?_; rw [HS.out]; rintro e w' ⟨rfl, rfl⟩))
      clear c0 c1 c2
      go_loop [12] (fun i => ∃ k : Nat, k ≤ n ∧ i = .int .i64 k) (fun i => n - (intOf i).toNat)
      case atStart => exact ⟨0, by omega, rfl⟩
      case round =>
        obtain ⟨k, hk, rfl⟩ := hrel
        by_cases hlt : k < n
        · have hkn : (k : Int) < n := by omega
          obtain ⟨b, o, rfl, hle, hc1⟩ := HH1.out.at' hlt
          · skip
            have hx : ns[k]?.getD 0 = S := by
              rw [List.getElem?_eq_getElem (by rw [HN.out]; exact hlt), Option.getD_some]
              exact HA.out _ (List.getElem_mem _)
            rw [hx] at hc1
            clear hx
            go_wp2
            go_round
            case rel => exact ⟨k + 1, by omega, by go_num⟩
            case measure => simp [intOf]; omega
        · have e : k = n := by omega
          subst e
          go_wp2
          go_ret
          exact ⟨rfl, HB1.out⟩
    · have hE : refE f g a ns = 2 := by unfold refE; rw [if_pos hc, hS, if_neg hall]
      rw [hE]
      have HA := Lib.hid hall
      clear hc hS hall hE
      go_enter Try.func93, Try.ntmps93
      go_wp2_with (first
        | (go_at_call 47; refine (rCorner_any _ _ _ _ ha ha2).mono ?_; rw [HC.out]; rintro e w1 ⟨rfl, hb1⟩; have HB1 := Lib.hid (below_nxt HB.out hb1); have HH1 := Lib.hid ((HH.out.alloc _).below hb1); have k0 := (HL.out.next hb1).head; have c0 := blk_cell k0 0; have c1 := blk_cell k0 1; have c2 := blk_cell k0 2; simp only [List.getElem?_toArray, List.getElem?_cons_zero, List.getElem?_cons_succ] at c0 c1 c2; clear k0 hb1)
        | (go_at_call 38; refine (rsize_any _ _).mono ?_; rw [HS.out]; rintro e w' ⟨rfl, rfl⟩))
      clear c0 c1 c2
      go_loop [12] (fun i => ∃ k : Nat, k ≤ n ∧ i = .int .i64 k ∧ ∀ j, j < k → ns[j]?.getD 0 = S) (fun i => n - (intOf i).toNat)
      case atStart => exact ⟨0, by omega, rfl, fun j hj => by omega⟩
      case round =>
        obtain ⟨k, hk, rfl, hjs⟩ := hrel
        have HJ := Lib.hid hjs
        clear hjs
        by_cases hlt : k < n
        · have hkn : (k : Int) < n := by omega
          obtain ⟨b, o, rfl, hle, hc1⟩ := HH1.out.at' hlt
          · skip
            obtain ⟨y, hy⟩ : ∃ y, ns[k]?.getD 0 = y := ⟨_, rfl⟩
            rw [hy] at hc1
            have HY := Lib.hid hy
            clear hy
            by_cases hyS : y = S
            · subst hyS
              go_wp2
              go_round
              case rel =>
                refine ⟨k + 1, by omega, by go_num, fun j hj => ?_⟩
                by_cases e : j = k
                · subst e; exact HY.out
                · exact HJ.out j (by omega)
              case measure => simp [intOf]; omega
            · have ht : (y != S) = true := by simpa using hyS
              clear hyS
              go_wp2
              go_ret
              exact ⟨rfl, HB1.out⟩
        · exfalso
          refine HA.out (fun x hx => ?_)
          obtain ⟨j, hj, rfl⟩ := List.getElem_of_mem hx
          have := HJ.out j (by have := HN.out; omega)
          rw [List.getElem?_eq_getElem hj] at this
          exact this
  · have ht : (cornE f g a != 0) = true := by simpa using hc
    have hE : refE f g a ns = cornE f g a := by unfold refE; rw [if_neg hc]
    rw [hE]
    clear hc hE
    go_enter Try.func93, Try.ntmps93
    go_wp2_with (go_at_call 47; refine (rCorner_any _ _ _ _ ha ha2).mono ?_; rintro e w1 ⟨rfl, hb1⟩; have HB1 := Lib.hid (below_nxt HB.out hb1); clear hb1)
    go_ret
    exact ⟨rfl, HB1.out⟩
theorem layE_ref (f g a b : Int) (n m : Nat) : (refE f g a [(n : Int)] ≠ 0 ∧ layE f g a n m b = refE f g a [(n : Int)]) ∨ (refE f g a [(n : Int)] = 0 ∧ m ≠ 64 ∧ layE f g a n m b = 2) ∨ (refE f g a [(n : Int)] = 0 ∧ cornE f g a = 0 ∧ (n : Int) = bytesS f ∧ m = 64 ∧ layE f g a n m b = plE f g a b) := by
  unfold layE refE
  by_cases hc : cornE f g a = 0
  · by_cases hn : (n : Int) = bytesS f
    · have h1 : ∀ x ∈ [(n : Int)], x = bytesS f := by simpa using hn
      rw [if_pos hc, if_pos h1]
      by_cases hm : m = 64
      · exact .inr (.inr ⟨rfl, hc, hn, hm, by rw [if_pos hc, if_pos ⟨hn, hm⟩]⟩)
      · exact .inr (.inl ⟨rfl, hm, by rw [if_pos hc, if_neg (fun h => hm h.2)]⟩)
    · have h1 : ¬ ∀ x ∈ [(n : Int)], x = bytesS f := by simpa using hn
      rw [if_pos hc, if_neg h1, if_pos hc, if_neg (fun h => hn h.1)]
      exact .inl ⟨by decide, rfl⟩
  · rw [if_neg hc, if_neg hc]
    exact .inl ⟨hc, rfl⟩
set_option maxHeartbeats 4000000 in
theorem rlay_any (f g a b : Int) (gb c : Nat) (xs ss : List Int) (tl : List Value) (u : Value) (w : World) (hp : Pic w gb xs tl) (hs : Rd .u8 w u ss) (hsb : ∀ k, u.ownBlock = some k → k ≠ gb) (hl : xs.length ≤ c) (hx : xs.length ≤ 1000000) (ha : -9223372036854775808 ≤ a) (ha2 : a ≤ 9223372036854775807) :
    Calls Try.prog 66 #[.slice (some ⟨gb, 0, none⟩) xs.length c, .agg #[.int .i64 f, .int .i64 g, .int .i64 a], .int .i64 b, u] w fun e w' => e = .returned (.int .i64 (layE f g a xs.length ss.length b)) ∧ Pic w' gb (layL f g a b xs ss) tl ∧ w.grownBy w' (some gb) := by
  have hsl := hs.len
  obtain ⟨ua, uc, rfl⟩ := hs.form
  obtain ⟨n, hnn⟩ : ∃ n, xs.length = n := ⟨_, rfl⟩
  obtain ⟨m, hmm⟩ : ∃ m, ss.length = m := ⟨_, rfl⟩
  have HNN := Lib.hid hnn
  have HMM := Lib.hid hmm
  have hgb := hp.lt
  have hB := ((Below.refl w.heap.size w).alloc (Nat.le_refl _) (Obj.cells #[.int .i64 f, .int .i64 g, .int .i64 a] 23)).alloc (by simp) (Obj.cells #[.int .i64 (n : Int)] 3)
  have hL := ((Lies.nil w).alloc (Obj.cells #[.int .i64 f, .int .i64 g, .int .i64 a] 23)).alloc (Obj.cells #[.int .i64 (n : Int)] 3)
  simp only [World.size_alloc] at hL
  have HB := Lib.hid hB
  have HL := Lib.hid hL
  have HP := Lib.hid hp
  have HS := Lib.hid hs
  have HSB := Lib.hid hsb
  have hrc := layE_ref f g a b n m
  have hnone : layE f g a xs.length ss.length b ≠ 0 → layL f g a b xs ss = xs := layL_none
  have hsome : layE f g a xs.length ss.length b = 0 → layL f g a b xs ss = put (layQ f g a b) (fun i => ss[i]?.getD 0) 64 xs := fun h => by unfold layL; rw [if_pos h]
  rw [hnn, hmm] at hnone hsome
  rw [hmm] at HS
  rw [hnn] at hl hx
  rw [hmm] at hsl
  have hrf := fun W => refuses_any f g a (.slice (some ⟨w.heap.size + 1, 0, none⟩) 1 1) [(n : Int)] W
  have HRF := Lib.hid hrf
  rw [hnn, hmm]
  clear hB hL hp hs hsb hnn hmm hrf
  have RD1 := Lib.hid (Rd.new1 .i64 (w.alloc (Obj.cells #[.int .i64 f, .int .i64 g, .int .i64 a] 23)) (n : Int) 3)
  rcases hrc with ⟨h1, e⟩ | ⟨h0, h1, e⟩ | ⟨h0, hc, hn, h1, e⟩
  · have ht : (refE f g a [(n : Int)] != 0) = true := by simpa using h1
    rw [hnone (by rw [e]; exact h1), e]
    clear e hnone hsome h1
    go_enter Try.func66, Try.ntmps66
    go_wp2_with (go_at_call 93; refine (HRF.out _ (by simpa using RD1.out) ha ha2).mono ?_; rintro e w1 ⟨rfl, hb1⟩; have HB1 := Lib.hid (below_nxt HB.out hb1); clear hb1)
    go_ret
    exact ⟨rfl, HP.out.below HB1.out, below_grown HB1.out _⟩
  · have ht : ((m : Int) != 64) = true := by simp; omega
    rw [hnone (by rw [e]; decide), e]
    have H0 := Lib.hid h0
    clear e hnone hsome h1 h0
    go_enter Try.func66, Try.ntmps66
    go_wp2_with (go_at_call 93; refine (HRF.out _ (by simpa using RD1.out) ha ha2).mono ?_; rw [H0.out]; rintro e w1 ⟨rfl, hb1⟩; have HB1 := Lib.hid (below_nxt HB.out hb1); clear hb1)
    go_ret
    exact ⟨rfl, HP.out.below HB1.out, below_grown HB1.out _⟩
  · subst h1
    by_cases hb : 1 ≤ b ∧ b ≤ 6
    · have hpl : plE f g a b = 0 := by unfold plE; rw [if_pos hc, if_pos hb]
      have hplA : plA f g a b = plcV f (cornerX f g a) (cornerY g a) b := by unfold plA; rw [if_pos hpl]
      have hplS : plS f g a b = plcS f b := by unfold plS; rw [if_pos hpl]
      have hpf := pl_fit hc hn hb
      have hQ : ∀ i, i < 64 → (layQ f g a b i : Int) = plcV f (cornerX f g a) (cornerY g a) b + (i : Int) / 8 * plcS f b + (i : Int) % 8 ∧ layQ f g a b i < n := fun i hi => by
        have := layQ_is hc hn hb hi
        rw [fetI_0] at this; exact this
      obtain ⟨PV, ePV⟩ : ∃ PV, plcV f (cornerX f g a) (cornerY g a) b = PV := ⟨_, rfl⟩
      obtain ⟨PS, ePS⟩ : ∃ PS, plcS f b = PS := ⟨_, rfl⟩
      rw [ePV, ePS] at hpf
      simp only [ePV, ePS] at hQ
      rw [ePV] at hplA
      rw [ePS] at hplS
      rw [hsome (by rw [e, hpl]), e, hpl]
      obtain ⟨q, hq⟩ : ∃ q, layQ f g a b = q := ⟨_, rfl⟩
      obtain ⟨v, hv⟩ : ∃ v : Nat → Int, (fun i => ss[i]?.getD 0) = v := ⟨_, rfl⟩
      rw [hq] at hQ
      rw [hq, hv]
      obtain ⟨p0, p1, p2, p3, p4⟩ := hpf
      have HV := Lib.hid hv
      have HQ := Lib.hid hQ
      have H0 := Lib.hid h0
      have HPL := Lib.hid (And.intro hplA (And.intro hplS hpl))
      clear e hnone hsome h0 hplA hplS hpl hQ hv hq ePV ePS hb hc hn
      go_enter Try.func66, Try.ntmps66
      go_wp2_with (first
        | (go_at_call 93; refine (HRF.out _ (by simpa using RD1.out) ha ha2).mono ?_; rw [H0.out]; rintro e w1 ⟨rfl, hb1⟩; have HB1 := Lib.hid (below_nxt HB.out hb1); have k0 := (HL.out.next hb1).tail.head; have c0 := blk_cell k0 0; have c1 := blk_cell k0 1; have c2 := blk_cell k0 2; simp only [List.getElem?_toArray, List.getElem?_cons_zero, List.getElem?_cons_succ] at c0 c1 c2; clear hb1 k0)
        | (go_at_call 49; refine (rPlace_any _ _ _ _ _ ha ha2).mono ?_; rw [HPL.out.1, HPL.out.2.1, HPL.out.2.2]; rintro e w2 ⟨rfl, hb2⟩; have HB2 := Lib.hid (below_nxt HB1.out hb2); clear hb2))
      clear c0 c1 c2
      go_loopw [13] (fun i wr => ∃ k : Nat, k ≤ 64 ∧ i = .int .i64 k ∧ Pic wr gb (put q v k xs) tl ∧ w.grownBy wr (some gb)) (fun i _ => 100 - (intOf i).toNat)
      case atStart => exact ⟨0, by omega, rfl, HP.out.below HB2.out, below_grown HB2.out _⟩
      case round =>
        obtain ⟨k, hk, rfl, hpic, hgr⟩ := hrel
        have HPI := Lib.hid hpic
        have HGR := Lib.hid hgr
        clear hpic hgr
        by_cases hlt : k < 64
        · have hkl : (k : Int) < 64 := by omega
          obtain ⟨hq1, hq2⟩ := HQ.out k hlt
          have hrs := HS.out.kept HGR.out.size (fun b hb => HGR.out.block b (HS.out.block b hb) (fun e => by cases e; exact HSB.out _ (by rw [HMM.out]; exact hb) rfl))
          obtain ⟨b0, o0, rfl, hle0, hc0⟩ := hrs.at' hlt
          have hvk : ss[k]?.getD 0 = v k := by rw [← HV.out]
          rw [hvk] at hc0
          have hcq := HPI.out.cell (i := q k) (by rw [put_len, HNN.out]; exact hq2)
          have hfq := HPI.out.free (q k)
          generalize (put q v k xs)[q k]?.getD 0 = old at hcq
          have hm0 : 0 ≤ (k : Int) / 8 * PS := Int.mul_nonneg (by omega) (by omega)
          have hm1 : (k : Int) / 8 * PS ≤ 7 * PS := Int.mul_le_mul_of_nonneg_right (by omega) (by omega)
          have hq1' := hq1.symm
          clear hq1 hrs hvk
          go_wp2
          go_roundw
          case rel => exact ⟨k + 1, by omega, by go_num, HPI.out.set (by rw [put_len, HNN.out]; exact hq2) _, HGR.out.trans (grown_set wr ⟨gb, q k, none⟩ _)⟩
          case measure => simp [intOf]; omega
        · have e : k = 64 := by omega
          subst e
          go_wp2
          go_ret
          exact ⟨rfl, HPI.out, HGR.out⟩
    · have hpl : plE f g a b = 3 := by unfold plE; rw [if_pos hc, if_neg hb]
      rw [hnone (by rw [e, hpl]; decide), e, hpl]
      have H0 := Lib.hid h0
      have HPL := Lib.hid hpl
      clear e hnone hsome h0 hpl hb hc hn
      go_enter Try.func66, Try.ntmps66
      go_wp2_with (first
        | (go_at_call 93; refine (HRF.out _ (by simpa using RD1.out) ha ha2).mono ?_; rw [H0.out]; rintro e w1 ⟨rfl, hb1⟩; have HB1 := Lib.hid (below_nxt HB.out hb1); have k0 := (HL.out.next hb1).tail.head; have c0 := blk_cell k0 0; have c1 := blk_cell k0 1; have c2 := blk_cell k0 2; simp only [List.getElem?_toArray, List.getElem?_cons_zero, List.getElem?_cons_succ] at c0 c1 c2; clear hb1 k0)
        | (go_at_call 49; refine (rPlace_any _ _ _ _ _ ha ha2).mono ?_; rw [HPL.out]; rintro e w2 ⟨rfl, hb2⟩; have HB2 := Lib.hid (below_nxt HB1.out hb2); clear hb2))
      go_ret
      exact ⟨rfl, HP.out.below HB2.out, below_grown HB2.out _⟩
end Go.Proofs.Ytcieggaihelacaa
