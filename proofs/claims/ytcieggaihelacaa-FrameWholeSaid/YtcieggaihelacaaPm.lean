/- The contract of the document's Copy. -/
import Derived.Test.YtcieggaihelacaaPl
set_option linter.unusedSimpArgs false
set_option linter.unusedVariables false
namespace Go.Proofs.Ytcieggaihelacaa
open Go.RowKit
set_option maxRecDepth 100000
theorem cpE_ref (f g a : Int) (n m : Nat) : cpE f g a n m = refE f g a [(n : Int), (m : Int)] := by
  unfold cpE refE
  have e : (∀ x ∈ [(n : Int), (m : Int)], x = bytesS f) ↔ ((n : Int) = bytesS f ∧ (m : Int) = bytesS f) := by simp
  simp only [e]
theorem rd_two (w : World) (x y : Int) : Rd .i64 (w.alloc (.cells #[.int .i64 x, .int .i64 y] 3)) (.slice (some ⟨w.heap.size, 0, none⟩) 2 2) [x, y] := by
  have := Rd.of_owns (xs := [x, y]) (k := .i64) (owns_new (w := w) 3 [.int .i64 x, .int .i64 y] (by simp [maxLen])) (by simp)
  exact this
set_option maxHeartbeats 4000000 in
theorem rcopy_any (f g a : Int) (gb c : Nat) (xs ys : List Int) (tl : List Value) (u : Value) (w : World) (hp : Pic w gb xs tl) (hs : Rd .u8 w u ys) (hsb : ∀ k, u.ownBlock = some k → k ≠ gb) (hl : xs.length ≤ c) (hx : xs.length ≤ 1000000) (ha : -9223372036854775808 ≤ a) (ha2 : a ≤ 9223372036854775807) :
    Calls Try.prog 67 #[.slice (some ⟨gb, 0, none⟩) xs.length c, u, .agg #[.int .i64 f, .int .i64 g, .int .i64 a]] w fun e w' => e = .returned (.int .i64 (cpE f g a xs.length ys.length)) ∧ Pic w' gb (cpL f g a xs ys) tl ∧ w.grownBy w' (some gb) := by
  have hsl := hs.len
  have hsf := hs
  obtain ⟨ua, uc, rfl⟩ := hs.form
  obtain ⟨n, hnn⟩ : ∃ n, xs.length = n := ⟨_, rfl⟩
  obtain ⟨m, hmm⟩ : ∃ m, ys.length = m := ⟨_, rfl⟩
  have HNN := Lib.hid hnn
  have HMM := Lib.hid hmm
  have hgb := hp.lt
  have hB := ((Below.refl w.heap.size w).alloc (Nat.le_refl _) (Obj.cells #[.int .i64 f, .int .i64 g, .int .i64 a] 23)).alloc (by simp) (Obj.cells #[.int .i64 (n : Int), .int .i64 (m : Int)] 3)
  have hL := ((Lies.nil w).alloc (Obj.cells #[.int .i64 f, .int .i64 g, .int .i64 a] 23)).alloc (Obj.cells #[.int .i64 (n : Int), .int .i64 (m : Int)] 3)
  simp only [World.size_alloc] at hL
  have HB := Lib.hid hB
  have HL := Lib.hid hL
  have HP := Lib.hid hp
  have hsb2 : ∀ k, ua.map (·.block) = some k → k ≠ gb := fun k e => hsb k (by cases ua with | none => simp at e | some x => simpa [Value.ownBlock] using e)
  have HSB := Lib.hid hsb
  have hrc := cpE_ref f g a n m
  have hnone : cpE f g a xs.length ys.length ≠ 0 → cpL f g a xs ys = xs := cpL_none
  have hsome : cpE f g a xs.length ys.length = 0 → cpL f g a xs ys = cpN f g a ys 6 xs := fun h => by unfold cpL; rw [if_pos h]
  rw [hnn, hmm] at hnone hsome
  rw [hmm] at hs hsl
  have HS := Lib.hid hs
  rw [hnn] at hl hx
  have hrf := fun W => refuses_any f g a (.slice (some ⟨w.heap.size + 1, 0, none⟩) 2 2) [(n : Int), (m : Int)] W
  rw [← hrc] at hrf
  have HRF := Lib.hid hrf
  rw [hnn, hmm]
  clear hB hL hp hs hsf hsb hsb2 hnn hmm hrf hrc
  have RD1 := Lib.hid (rd_two (w.alloc (Obj.cells #[.int .i64 f, .int .i64 g, .int .i64 a] 23)) (n : Int) (m : Int))
  rcases cp_cases f g a n m with ⟨hc, e⟩ | ⟨hc, h1, e⟩ | ⟨hc, h1, h2, e⟩ | ⟨hc, hn, hm, e⟩
  · have ht : (cpE f g a n m != 0) = true := by rw [e]; simpa using hc
    rw [hnone (by rw [e]; exact hc)]
    clear e hnone hsome hc
    go_enter Try.func67, Try.ntmps67
    go_wp2_with (go_at_call 93; refine (HRF.out _ (by simpa using RD1.out) ha ha2).mono ?_; rintro e w1 ⟨rfl, hb1⟩; have HB1 := Lib.hid (below_nxt HB.out hb1); clear hb1)
    go_ret
    exact ⟨rfl, HP.out.below HB1.out, below_grown HB1.out _⟩
  · rw [hnone (by rw [e]; decide), e]
    rw [e] at HRF
    clear e hnone hsome hc h1
    go_enter Try.func67, Try.ntmps67
    go_wp2_with (go_at_call 93; refine (HRF.out _ (by simpa using RD1.out) ha ha2).mono ?_; rintro e w1 ⟨rfl, hb1⟩; have HB1 := Lib.hid (below_nxt HB.out hb1); clear hb1)
    go_ret
    exact ⟨rfl, HP.out.below HB1.out, below_grown HB1.out _⟩
  · rw [hnone (by rw [e]; decide), e]
    rw [e] at HRF
    clear e hnone hsome hc h1 h2
    go_enter Try.func67, Try.ntmps67
    go_wp2_with (go_at_call 93; refine (HRF.out _ (by simpa using RD1.out) ha ha2).mono ?_; rintro e w1 ⟨rfl, hb1⟩; have HB1 := Lib.hid (below_nxt HB.out hb1); clear hb1)
    go_ret
    exact ⟨rfl, HP.out.below HB1.out, below_grown HB1.out _⟩
  · have hpf : ∀ b : Int, 1 ≤ b ∧ b ≤ 6 → _ := fun b hb => pl_fit (b := b) hc hn hb
    have hQ : ∀ b : Int, 1 ≤ b ∧ b ≤ 6 → ∀ i, i < 64 → (layQ f g a b i : Int) = plcV f (cornerX f g a) (cornerY g a) b + (i : Int) / 8 * plcS f b + (i : Int) % 8 ∧ layQ f g a b i < n := fun b hb i hi => by
      have := layQ_is hc hn hb hi
      rw [fetI_0] at this; exact this
    have hpl : ∀ b : Int, 1 ≤ b ∧ b ≤ 6 → plE f g a b = 0 ∧ plA f g a b = plcV f (cornerX f g a) (cornerY g a) b ∧ plS f g a b = plcS f b := fun b hb => by
      have h : plE f g a b = 0 := by unfold plE; rw [if_pos hc, if_pos hb]
      exact ⟨h, by unfold plA; rw [if_pos h], by unfold plS; rw [if_pos h]⟩
    rw [hsome e, e]
    rw [e] at HRF
    have hmn : m = n := by omega
    have hcp : ∀ j, (cpN f g a ys j xs).length = n := fun j => by rw [cpN_len, HNN.out]
    have hcs : ∀ j : Nat, cpN f g a ys (j + 1) xs = put (layQ f g a ((j : Int) + 1)) (fun i => ys[layQ f g a ((j : Int) + 1) i]?.getD 0) 64 (cpN f g a ys j xs) := fun j => rfl
    have hc0 : cpN f g a ys 0 xs = xs := rfl
    obtain ⟨C, hC⟩ : ∃ C : Nat → List Int, (fun j => cpN f g a ys j xs) = C := ⟨_, rfl⟩
    have hCj : ∀ j, cpN f g a ys j xs = C j := fun j => by rw [← hC]
    simp only [hCj] at hcp hcs hc0 ⊢
    have HCP := Lib.hid hcp
    have HCS := Lib.hid hcs
    have HC0 := Lib.hid hc0
    have HPF := Lib.hid hpf
    have HQQ := Lib.hid hQ
    have HPL := Lib.hid hpl
    clear e hnone hsome hc hn hm hcp hcs hc0 hC hCj hpf hQ hpl
    subst hmn
    go_enter Try.func67, Try.ntmps67
    go_wp2_with (go_at_call 93; refine (HRF.out _ (by simpa using RD1.out) ha ha2).mono ?_; rintro e w1 ⟨rfl, hb1⟩; have HB1 := Lib.hid (below_nxt HB.out hb1); have HL1 := Lib.hid (HL.out.next hb1); clear hb1)
    go_loopw [8, 9, 10, 11, 12, 13] (fun i _ _ _ _ _ wr => ∃ k : Nat, 1 ≤ k ∧ k ≤ 7 ∧ i = .int .i64 k ∧ Pic wr gb (C (k - 1)) tl ∧ wr.heap[w.heap.size]? = some (.cells #[.int .i64 f, .int .i64 g, .int .i64 a] 23 (0, 0)) ∧ w.grownBy wr (some gb)) (fun i _ _ _ _ _ _ => 10 - (intOf i).toNat)
    case atStart => exact ⟨1, by omega, by omega, rfl, by rw [HC0.out]; exact HP.out.below HB1.out, HL1.out.tail.head, below_grown HB1.out _⟩
    case round =>
      obtain ⟨k, hk1, hk7, rfl, hpic, hbox, hgr⟩ := hrel
      have HPI := Lib.hid hpic
      have HBX := Lib.hid hbox
      have HGR := Lib.hid hgr
      by_cases hlt : k ≤ 6
      · have hkl : (k : Int) ≤ 6 := by omega
        have hb16 : (1 : Int) ≤ k ∧ (k : Int) ≤ 6 := by omega
        obtain ⟨p0, p1, p2, p3, p4⟩ := HPF.out k hb16
        have hq0 := HQQ.out k hb16
        obtain ⟨l1, l2, l3⟩ := HPL.out k hb16
        have hst := HCS.out (k - 1)
        rw [show (((k - 1 : Nat) : Int) + 1) = k by omega, show k - 1 + 1 = k by omega] at hst
        have hzl := HCP.out (k - 1)
        obtain ⟨PV, ePV⟩ : ∃ PV, plcV f (cornerX f g a) (cornerY g a) k = PV := ⟨_, rfl⟩
        obtain ⟨PS, ePS⟩ : ∃ PS, plcS f k = PS := ⟨_, rfl⟩
        rw [ePV] at p0 p1 p4 l2
        rw [ePS] at p2 p3 p4 l3
        simp only [ePV, ePS] at hq0
        obtain ⟨q, hq⟩ : ∃ q, layQ f g a k = q := ⟨_, rfl⟩
        rw [hq] at hq0 hst
        obtain ⟨v, hv⟩ : ∃ v : Nat → Int, (fun i => ys[q i]?.getD 0) = v := ⟨_, rfl⟩
        rw [hv] at hst
        obtain ⟨zs, hzs⟩ : ∃ zs, C (k - 1) = zs := ⟨_, rfl⟩
        rw [hzs] at hst hzl HPI
        have HV := Lib.hid hv
        have HQ := Lib.hid hq0
        have HST := Lib.hid hst
        have HZL := Lib.hid hzl
        have HLL := Lib.hid (And.intro l1 (And.intro l2 l3))
        have c0 := blk_cell hbox 0
        have c1 := blk_cell hbox 1
        have c2 := blk_cell hbox 2
        simp only [List.getElem?_toArray, List.getElem?_cons_zero, List.getElem?_cons_succ] at c0 c1 c2
        clear hv hq0 hst hzl l1 l2 l3 ePV ePS hq hzs hpic hbox hgr
        go_wp2_with (go_at_call 49; refine (rPlace_any _ _ _ _ _ ha ha2).mono ?_; rw [HLL.out.1, HLL.out.2.1, HLL.out.2.2]; rintro e w2 ⟨rfl, hb2⟩; have HB2 := Lib.hid hb2; clear hb2)
        clear c0 c1 c2
        go_loopw [12, 13] (fun i _ wr2 => ∃ j : Nat, j ≤ 64 ∧ i = .int .i64 j ∧ Pic wr2 gb (put q v j zs) tl ∧ wr2.heap[w.heap.size]? = some (.cells #[.int .i64 f, .int .i64 g, .int .i64 a] 23 (0, 0)) ∧ w.grownBy wr2 (some gb)) (fun i _ _ => 100 - (intOf i).toNat)
        case atStart => exact ⟨0, by omega, rfl, HPI.out.below HB2.out, (HB2.out.block _ (blk_lt HBX.out)).trans HBX.out, ⟨HB2.out.os.trans HGR.out.os, HB2.out.tape.trans HGR.out.tape, HB2.out.output.trans HGR.out.output, Nat.le_trans HGR.out.size HB2.out.size, fun i hi hne => (HB2.out.block i (Nat.lt_of_lt_of_le hi HGR.out.size)).trans (HGR.out.block i hi hne)⟩⟩
        case round =>
          rename_i wr2
          obtain ⟨j, hj, rfl, hpic2, hbox2, hgr2⟩ := hrel
          have HP2 := Lib.hid hpic2
          have HX2 := Lib.hid hbox2
          have HG2 := Lib.hid hgr2
          clear hpic2 hbox2 hgr2
          by_cases hltj : j < 64
          · have hjl : (j : Int) < 64 := by omega
            obtain ⟨hq1, hq2⟩ := HQ.out j hltj
            have hrs := HS.out.kept HG2.out.size (fun b hb => HG2.out.block b (HS.out.block b hb) (fun e => by cases e; exact HSB.out _ (by rw [HMM.out]; exact hb) rfl))
            obtain ⟨b0, o0, rfl, hle0, hc0⟩ := hrs.at' hq2
            have hvk : ys[q j]?.getD 0 = v j := by rw [← HV.out]
            rw [hvk] at hc0
            have hcq := HP2.out.cell (i := q j) (by rw [put_len, HZL.out]; exact hq2)
            have hfq := HP2.out.free (q j)
            generalize (put q v j zs)[q j]?.getD 0 = old at hcq
            have hm0 : 0 ≤ (j : Int) / 8 * PS := Int.mul_nonneg (by omega) (by omega)
            have hm1 : (j : Int) / 8 * PS ≤ 7 * PS := Int.mul_le_mul_of_nonneg_right (by omega) (by omega)
            have hq1' := hq1.symm
            clear hq1 hrs hvk
            go_wp2
            go_roundw
            case rel => exact ⟨j + 1, by omega, by go_num, HP2.out.set (by rw [put_len, HZL.out]; exact hq2) _, blk_kept HX2.out (grown_set _ _ _) (by simp; omega), HG2.out.trans (grown_set _ ⟨gb, q j, none⟩ _)⟩
            case measure => simp [intOf]; omega
          · have e : j = 64 := by omega
            subst e
            go_wp2
            go_roundw
            case rel => exact ⟨k + 1, by omega, by omega, by go_num, by rw [Nat.add_sub_cancel, HST.out]; exact HP2.out, HX2.out, HG2.out⟩
            case measure => simp [intOf]; omega
      · have e : k = 7 := by omega
        subst e
        clear hpic hbox hgr
        go_wp2
        go_ret
        exact ⟨rfl, HPI.out, HGR.out⟩
end Go.Proofs.Ytcieggaihelacaa
