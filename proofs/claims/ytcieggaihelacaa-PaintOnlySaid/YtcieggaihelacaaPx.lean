/- Layer 16's statements: PaintOnly, walked. -/
import Derived.Test.YtcieggaihelacaaPw
import Derived.Test.YtcieggaihelacaaPv
set_option linter.unusedSimpArgs false
set_option linter.unusedVariables false
namespace Go.Proofs.Ytcieggaihelacaa
open Go.RowKit
set_option maxRecDepth 100000
/-- What the loops that count keep. -/
def OnlyI (xs X : List Int) (n : Nat) (w0 : World) (L : List (Nat × List Int × List Value)) (k d : Nat) (wr : World) : Prop := dif xs X k = d ∧ St w0 L wr
theorem box_lies {W w' : World} {L : List (Nat × List Int × List Value)} {f g a : Int} (h : St (W.alloc (Obj.cells #[.int .i64 f, .int .i64 g, .int .i64 a] 23)) L w') : w'.heap[W.heap.size]? = some (Obj.cells #[.int .i64 f, .int .i64 g, .int .i64 a] 23) := blk_kept (World.alloc_heap_new W _) (below_grown h.1 none) (by simp)
theorem own_pic {w w' : World} {r : Value} {xs : List Int} (h : w'.ownsRow w.heap.size 5 1 r xs.length (xs.map (Value.int .u8))) (hl : 0 < xs.length) : ∃ g tl, r = .slice (some ⟨g, 0, none⟩) xs.length (xs.length + tl.length) ∧ w.heap.size ≤ g ∧ Pic w' g xs tl := by
  rcases Pic.of_owns h with ⟨_, e⟩ | ⟨g, tl, h1, h2, h3, _⟩
  · rw [e] at hl; simp at hl
  · exact ⟨g, tl, h1, h2, h3⟩
set_option maxHeartbeats 8000000 in
theorem paintOnly_any (x0 x1 x2 x3 x4 x5 x6 : Int) (w : World) (h0 : -9223372036854775808 ≤ x0 ∧ x0 ≤ 9223372036854775807) (h1 : -9223372036854775808 ≤ x1 ∧ x1 ≤ 9223372036854775807) (h2 : -9223372036854775808 ≤ x2 ∧ x2 ≤ 9223372036854775807) (h3 : -9223372036854775808 ≤ x3 ∧ x3 ≤ 9223372036854775807) :
    Calls Try.prog 16 #[.int .i64 x0, .int .i64 x1, .int .i64 x2, .int .i64 x3, .int .i64 x4, .int .i64 x5, .int .i64 x6] w fun e w' => e = .returned (.bool true) ∧ Below w.heap.size w w' := by
  obtain ⟨b, hb⟩ : ∃ b, x3 % 6 = b := ⟨_, rfl⟩
  have hbb : 0 ≤ b ∧ b ≤ 5 := by omega
  have HP := Lib.hid hb
  obtain ⟨qa, hqa⟩ : ∃ qa, x2 % 33 = qa := ⟨_, rfl⟩
  have hqb : 0 ≤ qa ∧ qa ≤ 32 := by omega
  have hs := spot_any x0 x1 x2
  rw [hqa] at hs
  have HS := Lib.hid hs
  clear hb hs hqa
  go_enter Try.func16, Try.ntmps16
  go_wp2_with (first
    | (go_at_call 55; refine (awake16_any _).mono ?_; rintro e w1 ⟨rfl, hb1⟩; have HB1 := Lib.hid hb1; clear hb1)
    | (go_at_call 36; refine (HS.out _ h0.1 h0.2 h1.1 h1.2 h2.1 h2.2).mono ?_; rintro e w2 ⟨⟨f, g, rfl, hfx, hf, hg⟩, hb2⟩; have S0 := Lib.hid (St.nil (w2.alloc (Obj.cells #[.int .i64 f, .int .i64 g, .int .i64 (1 + qa)] 23))); have HB2 := Lib.hid ((below_nxt HB1.out hb2).alloc (below_nxt HB1.out hb2).size (Obj.cells #[.int .i64 f, .int .i64 g, .int .i64 (1 + qa)] 23)); clear hfx hb2)
    | (go_at_call 21; refine (pick_any _ _ _ (by omega) (by omega) (by decide) (by decide)).mono ?_; rw [HP.out]; rintro e w' ⟨rfl, rfl⟩))
  have hwf : ∀ f, Fence.wide.fn f := fun _ => trivial
  have hwd : Fence.wide.depth = none := rfl
  have S0d := Lib.hid (S0.out.drewN 1)
  refine wp_region_mix (fun w' => w'.heap[w2.heap.size]? = some (Obj.cells #[.int .i64 f, .int .i64 g, .int .i64 (1 + qa)] 23)) [] [(0, true), (1, true), (2, true), (3, true), (5, true), (6, true), (7, true), (8, true), (4, false), (9, false), (10, true), (11, true)] (by kernel_rfl) (by kernel_rfl) rfl (by kernel_rfl) (box_lies S0d.out) ?_
  (refine mix_q rfl rfl (fun w' hB => by go_simp; rfl) ?_; simp only [Act.put, List.setIfInBounds_toArray, List.set_cons_succ, List.set_cons_zero])
  (refine mix_q rfl rfl (fun w' hB => by have c0 := blk_cell hB 0; have c1 := blk_cell hB 1; have c2 := blk_cell hB 2; simp only [List.getElem?_toArray, List.getElem?_cons_zero, List.getElem?_cons_succ] at c0 c1 c2; go_simp; rfl) ?_; simp only [Act.put, List.setIfInBounds_toArray, List.set_cons_succ, List.set_cons_zero])
  iterate 3 (refine mix_q rfl rfl (fun w' hB => by go_simp; rfl) ?_; simp only [Act.put, List.setIfInBounds_toArray, List.set_cons_succ, List.set_cons_zero])
  (refine mix_q rfl rfl (fun w' hB => by have c0 := blk_cell hB 0; have c1 := blk_cell hB 1; have c2 := blk_cell hB 2; simp only [List.getElem?_toArray, List.getElem?_cons_zero, List.getElem?_cons_succ] at c0 c1 c2; go_simp; rfl) ?_; simp only [Act.put, List.setIfInBounds_toArray, List.set_cons_succ, List.set_cons_zero])
  iterate 2 (refine mix_q rfl rfl (fun w' hB => by go_simp; rfl) ?_; simp only [Act.put, List.setIfInBounds_toArray, List.set_cons_succ, List.set_cons_zero])
  refine mix_e rfl rfl ?_
  go_simp
  refine (callsIn_wide.2 (scene_any f x4 x5 _ hf)).mono ?_
  rintro e w3 ⟨⟨g1, n, X, rfl, hns, hxs, _, hg1, hp1⟩, hb3⟩
  have S3 := Lib.hid (S0d.out.push hb3 hg1 hp1)
  have HN := Lib.hid hns
  have HXS := Lib.hid hxs
  refine ⟨box_lies S3.out, ?_⟩
  clear hns hxs hg1 hp1 hb3
  refine mix_e rfl rfl ?_
  go_simp
  refine (callsIn_wide.2 (scene_any f x6 x5 w3 hf)).mono ?_
  rintro e w4 ⟨⟨g2, n2, Y, rfl, hn2, hys, _, hg2, hp2⟩, hb4⟩
  have hnn : n = n2 := by have := HN.out; omega
  subst hnn
  have S4 := Lib.hid (S3.out.push hb4 hg2 hp2)
  have hnb : n ≤ 152064 ∧ 38016 ≤ n := by
    have h := HN.out
    clear hn2 hys hg2 hp2 hb4
    rcases hf with rfl | rfl <;> simp [bytesS] at h <;> omega
  obtain ⟨L, X1, X2, a1, a2, a3, a4, a5, a6, a7, a8, a9, a10, a11, a12, a13, a14⟩ := only_all (b := 1 + b) hf hg (a := 1 + qa) (by omega) HXS.out hys HN.out (by omega)
  have HF := Lib.hid (And.intro a1 (And.intro a2 a3))
  have HE := Lib.hid (And.intro a4 (And.intro a5 (And.intro a6 a7)))
  have HLEN := Lib.hid (And.intro HXS.out (And.intro hys (And.intro a8 a9)))
  have HD1 := Lib.hid a10
  have HD2 := Lib.hid a11
  have HM1 := Lib.hid a12
  have HM2 := Lib.hid a13
  have HK := Lib.hid a14
  have hn1 : n ≤ 1000000 := by omega
  refine ⟨box_lies S4.out, ?_⟩
  clear hn2 hys hg2 hp2 hb4 a1 a2 a3 a4 a5 a6 a7 a8 a9 a10 a11 a12 a13 a14
  iterate 2 (refine mix_q rfl rfl (fun w' hB => by go_simp; rfl) ?_; simp only [Act.put, List.setIfInBounds_toArray, List.set_cons_succ, List.set_cons_zero])
  refine mix_nil ?_
  go_wp2_with (first
    | (go_at_call 64; refine (copyBytes_any (.slice (some ⟨g1, 0, none⟩) n n) X w4 ((S4.out.pic 1 rfl).rdn HLEN.out.1 hn1 (Nat.le_refl n)) (by rw [HLEN.out.1]; exact hn1)).mono ?_; rintro e w5 ⟨⟨r, rfl, hr⟩, hb5⟩; obtain ⟨g6, t6, rfl, hg6, hp6⟩ := own_pic hr (by have := HLEN.out.1; omega); rw [HLEN.out.1]; have S5 := Lib.hid (S4.out.push hb5 hg6 hp6); clear hr hg6 hp6 hb5; obtain ⟨c0, c1, c2⟩ := box_cells S5.out)
    | (go_at_call 23; refine (fetch_any f g (1 + qa) (1 + b) 0 0 (.slice (some ⟨g2, 0, none⟩) n n) Y w5 ((S5.out.pic 1 rfl).rdn HLEN.out.2.1 hn1 (Nat.le_refl n)) (by omega) (by omega) (by decide) (by decide) (by decide) (by decide)).mono ?_; rw [HF.out.1, HF.out.2.1]; rintro e w6 ⟨⟨u, rfl, hu⟩, hb6⟩; have hro : ∀ k, u.ownBlock = some k → k ≠ g1 := (fun k e h => by have := (hu.lt k e).1; have := (S5.out.pic 2 rfl).lt; omega); have HRO := Lib.hid hro; obtain ⟨ua, uc, rfl, hru⟩ := rdL hu HF.out.2.2; have HRU := Lib.hid hru; have S6 := Lib.hid (S5.out.below hb6); clear hu hru hro hb6 c0 c1 c2; obtain ⟨c0, c1, c2⟩ := box_cells S6.out)
    | (go_at_call 65; refine (lay_n f g (1 + qa) (1 + b) g1 n X L [] (.slice ua 64 uc) w6 (S6.out.pic 2 rfl) HRU.out HRO.out n 64 HLEN.out.1 HF.out.2.2 (Nat.le_refl n) hn1 (by omega) (by omega)).mono ?_; rw [HE.out.1, HE.out.2.1]; rintro e w7 ⟨rfl, hp7, hg7⟩; have S7 := Lib.hid (S6.out.upd 2 rfl hg7 hp7); clear hp7 hg7 c0 c1 c2))
  go_loopw [22, 23] (fun c i wr => ∃ k d : Nat, k ≤ n ∧ i = .int .i64 k ∧ c = .int .i64 d ∧ OnlyI X1 X n (w2.alloc (Obj.cells #[.int .i64 f, .int .i64 g, .int .i64 (1 + qa)] 23)) [(g6, X, t6), (g2, Y, []), (g1, X1, [])] k d wr) (fun _ i _ => n - (intOf i).toNat)
  case atStart => exact ⟨0, 0, by omega, rfl, rfl, rfl, S7.out⟩
  case round =>
    obtain ⟨k, d, hk, rfl, rfl, hin⟩ := hrel
    by_cases hlt : k < n
    · have hlt' : (k : Int) < (n : Int) := by omega
      obtain ⟨hd, hst⟩ := hin
      have ck1 := (hst.pic 2 rfl).cell (i := k) (by have := HLEN.out; omega)
      have ck2 := (hst.pic 1 rfl).cell (i := k) (by have := HLEN.out; omega)
      have ck3 := (hst.pic 0 rfl).cell (i := k) (by have := HLEN.out; omega)
      have hlaw := HM1.out k
      have hnx : dif X1 X (k + 1) = d + (if X1[k]?.getD 0 = X[k]?.getD 0 then 0 else 1) := by rw [← hd]; rfl
      have hdk : d ≤ k := by rw [← hd]; exact dif_le _ _ _
      obtain ⟨p1, hp1⟩ : ∃ p1, X1[k]?.getD 0 = p1 := ⟨_, rfl⟩
      obtain ⟨p2, hp2⟩ : ∃ p2, X[k]?.getD 0 = p2 := ⟨_, rfl⟩
      obtain ⟨p3, hp3⟩ : ∃ p3, Y[k]?.getD 0 = p3 := ⟨_, rfl⟩
      rw [hp1] at ck1
      rw [hp2] at ck3
      rw [hp3] at ck2
      rw [hp1, hp2] at hnx
      rw [hp1, hp2, hp3] at hlaw
      have HST := Lib.hid hst
      have HNX := Lib.hid hnx
      have HLW := Lib.hid hlaw
      clear hp1 hp2 hp3 hst hnx hlaw hd
      by_cases hx : p1 = p2
      · subst hx
        go_wp2
        go_quiet (fail)
        go_wp2
        go_roundw
        case rel => exact ⟨k + 1, d, by omega, by go_num, rfl, by rw [HNX.out]; simp, HST.out.drewN _⟩
        case measure => simp [intOf]; omega
      · have hx' : (p1 != p2) = true := by simpa using hx
        have h13 := HLW.out hx
        subst h13
        have HX := Lib.hid hx
        clear hx
        go_wp2
        go_quiet (fail)
        go_wp2
        go_quiet (fail)
        go_wp2
        go_roundw
        case rel => exact ⟨k + 1, d + 1, by omega, by go_num, by go_num, by rw [HNX.out, if_neg HX.out], HST.out.drewN _⟩
        case measure => simp [intOf]; omega
    · have e : n = k := by omega
      subst e
      obtain ⟨hd, hst⟩ := hin
      have hd64 : d ≤ 64 := by rw [← hd]; exact HD1.out
      have hdn : ¬ 64 < (d : Int) := by omega
      obtain ⟨c0, c1, c2⟩ := box_cells hst
      have S8 := Lib.hid hst
      clear hst hd
      go_wp2_with (go_at_call 56; refine (copy_n f g (1 + qa) g1 n X1 Y [] (.slice (some ⟨g2, 0, none⟩) n n) _ (S8.out.pic 2 rfl) ((S8.out.pic 1 rfl).rdn HLEN.out.2.1 hn1 (Nat.le_refl n)) (own_ne (S8.out.ne 1 2 rfl rfl (by decide))) n n HLEN.out.2.2.1 HLEN.out.2.1 (Nat.le_refl n) hn1 (by omega) (by omega)).mono ?_; rw [HE.out.2.2.1, HE.out.2.2.2]; rintro e w9 ⟨rfl, hp9, hg9⟩; have S9 := Lib.hid (S8.out.upd 2 rfl hg9 hp9); clear hp9 hg9 c0 c1 c2)
      go_loopw [22, 24] (fun c i wr => ∃ k d : Nat, k ≤ n ∧ i = .int .i64 k ∧ c = .int .i64 d ∧ OnlyI X2 X n (w2.alloc (Obj.cells #[.int .i64 f, .int .i64 g, .int .i64 (1 + qa)] 23)) [(g6, X, t6), (g2, Y, []), (g1, X2, [])] k d wr) (fun _ i _ => n - (intOf i).toNat)
      case atStart => exact ⟨0, 0, by omega, rfl, rfl, rfl, S9.out⟩
      case round =>
        obtain ⟨k, d, hk, rfl, rfl, hin⟩ := hrel
        by_cases hlt : k < n
        · have hlt' : (k : Int) < (n : Int) := by omega
          obtain ⟨hd, hst⟩ := hin
          have ck1 := (hst.pic 2 rfl).cell (i := k) (by have := HLEN.out; omega)
          have ck2 := (hst.pic 1 rfl).cell (i := k) (by have := HLEN.out; omega)
          have ck3 := (hst.pic 0 rfl).cell (i := k) (by have := HLEN.out; omega)
          have hlaw := HM2.out k
          have hnx : dif X2 X (k + 1) = d + (if X2[k]?.getD 0 = X[k]?.getD 0 then 0 else 1) := by rw [← hd]; rfl
          have hdk : d ≤ k := by rw [← hd]; exact dif_le _ _ _
          obtain ⟨p1, hp1⟩ : ∃ p1, X2[k]?.getD 0 = p1 := ⟨_, rfl⟩
          obtain ⟨p2, hp2⟩ : ∃ p2, X[k]?.getD 0 = p2 := ⟨_, rfl⟩
          obtain ⟨p3, hp3⟩ : ∃ p3, Y[k]?.getD 0 = p3 := ⟨_, rfl⟩
          rw [hp1] at ck1
          rw [hp2] at ck3
          rw [hp3] at ck2
          rw [hp1, hp2] at hnx
          rw [hp1, hp2, hp3] at hlaw
          have HST := Lib.hid hst
          have HNX := Lib.hid hnx
          have HLW := Lib.hid hlaw
          clear hp1 hp2 hp3 hst hnx hlaw hd
          by_cases hx : p1 = p2
          · subst hx
            go_wp2
            go_quiet (fail)
            go_wp2
            go_roundw
            case rel => exact ⟨k + 1, d, by omega, by go_num, rfl, by rw [HNX.out]; simp, HST.out.drewN _⟩
            case measure => simp [intOf]; omega
          · have hx' : (p1 != p2) = true := by simpa using hx
            have h13 := HLW.out hx
            subst h13
            have HX := Lib.hid hx
            clear hx
            go_wp2
            go_quiet (fail)
            go_wp2
            go_quiet (fail)
            go_wp2
            go_roundw
            case rel => exact ⟨k + 1, d + 1, by omega, by go_num, by go_num, by rw [HNX.out, if_neg HX.out], HST.out.drewN _⟩
            case measure => simp [intOf]; omega
        · have e : n = k := by omega
          subst e
          obtain ⟨hd, hst⟩ := hin
          have hd384 : d ≤ 384 := by rw [← hd]; exact HD2.out
          have hdn2 : (d : Int) ≤ 384 := by omega
          have S10 := Lib.hid hst
          clear hst hd
          go_wp2
          go_loopw [25, 26, 27, 28, 29] (fun i _ _ _ _ wr => ∃ k : Nat, 1 ≤ k ∧ k ≤ 7 ∧ i = .int .i64 k ∧ St (w2.alloc (Obj.cells #[.int .i64 f, .int .i64 g, .int .i64 (1 + qa)] 23)) [(g6, X, t6), (g2, Y, []), (g1, X2, [])] wr) (fun i _ _ _ _ _ => 10 - (intOf i).toNat)
          case atStart => exact ⟨1, by omega, by omega, rfl, S10.out⟩
          case round =>
            obtain ⟨k, hk1, hk2, rfl, hst⟩ := hrel
            by_cases hk : k ≤ 6
            · have hk' : (k : Int) ≤ 6 := by omega
              obtain ⟨M, m1, m2, m3, m4, m5⟩ := HK.out k (by omega)
              have HMM := Lib.hid (And.intro m1 (And.intro m2 (And.intro m3 (And.intro m4 m5))))
              obtain ⟨c0, c1, c2⟩ := box_cells hst
              have T0 := Lib.hid hst
              clear hst m1 m2 m3 m4 m5
              go_wp2_with (first
                | (go_at_call 23; (with_reducible refine (fetch_any f g (1 + qa) k 0 0 (.slice (some ⟨g1, 0, none⟩) n n) X2 _ ((T0.out.pic 2 rfl).rdn HLEN.out.2.2.2 hn1 (Nat.le_refl n)) (by omega) (by omega) (by decide) (by decide) (by decide) (by decide)).mono ?_); rw [HMM.out.2.1, HMM.out.2.2.2.1]; rintro e w11 ⟨⟨u1, rfl, hu⟩, hb11⟩; obtain ⟨va, vc, rfl, hru⟩ := rdL hu HMM.out.1; have HR1 := Lib.hid hru; have T1 := Lib.hid (T0.out.below hb11); clear hu hru hb11 c0 c1 c2; obtain ⟨c0, c1, c2⟩ := box_cells T1.out)
                | (go_at_call 23; refine (fetch_any f g (1 + qa) k 0 0 (.slice (some ⟨g2, 0, none⟩) n n) Y _ ((T1.out.pic 1 rfl).rdn HLEN.out.2.1 hn1 (Nat.le_refl n)) (by omega) (by omega) (by decide) (by decide) (by decide) (by decide)).mono ?_; rw [HMM.out.2.2.1, HMM.out.2.2.2.2]; rintro e w12 ⟨⟨u2, rfl, hu⟩, hb12⟩; obtain ⟨ya, yc, rfl, hru⟩ := rdL hu HMM.out.1; have HR2 := Lib.hid hru; have HR1' := Lib.hid (HR1.out.below hb12); have T2 := Lib.hid (T1.out.below hb12); clear hu hru hb12 c0 c1 c2)
                | (go_at_call 25; refine (sameBytes_true _ _ M _ HR1'.out HR2.out).mono ?_; rintro e w' ⟨rfl, rfl⟩))
              go_roundw
              case rel => exact ⟨k + 1, by omega, by omega, by go_num, T2.out⟩
              case measure => simp [intOf]; omega
            · have e : k = 7 := by omega
              subst e
              have S11 := Lib.hid hst
              clear hst
              go_wp2
              go_ret
              exact ⟨rfl, HB2.out.trans (S11.out.old.mono HB2.out.size)⟩
end Go.Proofs.Ytcieggaihelacaa
