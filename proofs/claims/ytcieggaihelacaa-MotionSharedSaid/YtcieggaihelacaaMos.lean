/- Layer 14's statement MotionAlone, walked: one sample of the picture is another one. -/
import Derived.Test.YtcieggaihelacaaMor
set_option linter.unusedSimpArgs false
set_option linter.unusedVariables false
namespace Go.Proofs.Ytcieggaihelacaa
open Go.RowKit
set_option maxRecDepth 100000
theorem plcS_is {f b : Int} (hf : f = 0 ∨ f = 1) : plcS f b = 88 ∨ plcS f b = 176 ∨ plcS f b = 352 := by
  unfold plcS
  rcases hf with rfl | rfl
  · have e1 : wideS 0 = 176 := rfl
    rw [e1]; split <;> omega
  · have e1 : wideS 1 = 352 := rfl
    rw [e1]; split <;> omega
theorem fetI_inj {f g a b x y : Int} (hf : f = 0 ∨ f = 1) {k j : Nat} (hk : k < 64) (hj : j < 64) (h : fetI f g a b x y k = fetI f g a b x y j) : k = j := by
  unfold fetI at h
  generalize plcV f (cornerX f g a) (cornerY g a) b = V at h
  generalize sxS b x = sx at h
  generalize sxS b y = sy at h
  rcases plcS_is (f := f) (b := b) hf with e | e | e <;> rw [e] at h <;> omega
theorem alone_plain (f g a b x y : Int) (xs : List Int) (q : Nat) (z : Int) (hf : f = 0 ∨ f = 1) (hz : z = (xs[q]?.getD 0 + 1) % 256) :
    fetE f g a (xs.set q z).length b x y = fetE f g a xs.length b x y ∧ (fetL f g a (xs.set q z) b x y).length = (fetL f g a xs b x y).length ∧ (fetL f g a xs b x y).length ≤ 64 ∧
    ∃ p : Nat, ∀ k, k < (fetL f g a xs b x y).length → ((fetL f g a xs b x y)[k]?.getD 0 = (fetL f g a (xs.set q z) b x y)[k]?.getD 0) ∨ (k = p ∧ (fetL f g a (xs.set q z) b x y)[k]?.getD 0 = ((fetL f g a xs b x y)[k]?.getD 0 + 1) % 256) := by
  have hE : fetE f g a (xs.set q z).length b x y = fetE f g a xs.length b x y := by rw [List.length_set]
  refine ⟨hE, ?_⟩
  by_cases h0 : fetE f g a xs.length b x y = 0
  · have hc : cornE f g a = 0 ∧ (xs.length : Int) = bytesS f ∧ (1 ≤ b ∧ b ≤ 6) ∧ fitsE f g a x y = 0 := by
      rcases fet_cases f g a xs b x y with ⟨hc, e, _⟩ | ⟨hc, h1, e, _⟩ | ⟨hc, h1, h2, e, _⟩ | ⟨hc, h1, h2, h3, e, _⟩ | ⟨hc, h1, h2, h3, e, _⟩
      · rw [e] at h0; exact absurd h0 hc
      · rw [e] at h0; cases h0
      · rw [e] at h0; cases h0
      · rw [e] at h0; exact absurd h0 h3
      · exact ⟨hc, h1, h2, h3⟩
    rw [fetL_len h0, fetL_len (hE.trans h0)]
    refine ⟨by simp, by simp, ?_⟩
    have hat : ∀ (ys : List Int) (k : Nat), k < 64 → ((List.range 64).map (fun k => ys[(fetI f g a b x y k).toNat]?.getD 0))[k]?.getD 0 = ys[(fetI f g a b x y k).toNat]?.getD 0 := fun ys k hk => by
      rw [List.getElem?_map, List.getElem?_range hk]; rfl
    have hin : ∀ k : Nat, k < 64 → 0 ≤ fetI f g a b x y k ∧ fetI f g a b x y k < (xs.length : Int) := fun k hk => fetI_in hc.1 hc.2.1 hc.2.2.1 hc.2.2.2 hk
    by_cases hp : ∃ p : Nat, p < 64 ∧ (fetI f g a b x y p).toNat = q
    · obtain ⟨p, hp, hpq⟩ := hp
      refine ⟨p, fun k hk => ?_⟩
      have hk : k < 64 := by simpa using hk
      rw [hat _ k hk, hat _ k hk]
      by_cases e : k = p
      · subst e
        refine .inr ⟨rfl, ?_⟩
        rw [hpq, List.getElem?_set_self (by have := hin k hk; omega), hz]; rfl
      · refine .inl ?_
        rw [List.getElem?_set_ne]
        intro e2
        refine e (fetI_inj (g := g) (a := a) (b := b) (x := x) (y := y) hf hk hp ?_)
        have := hin k hk; have := hin p hp; omega
    · refine ⟨0, fun k hk => ?_⟩
      have hk : k < 64 := by simpa using hk
      rw [hat _ k hk, hat _ k hk]
      refine .inl ?_
      rw [List.getElem?_set_ne]
      exact fun e => hp ⟨k, hk, e.symm⟩
  · rw [fetL_none h0, fetL_none (by rw [hE]; exact h0)]
    exact ⟨rfl, by simp, 0, fun k hk => by simp at hk⟩
theorem Rd.at {k : IntKind} {w : World} {a : Option Addr} {n c : Nat} {xs : List Int} (h : Rd k w (.slice a n c) xs) {i : Nat} (hi : i < n) : ∃ b o, a = some ⟨b, o, none⟩ ∧ n ≤ c ∧ w.cell? ⟨b, o + i, none⟩ = some (.int k (xs[i]?.getD 0)) := by
  rcases h with ⟨e, _⟩ | ⟨b, o, c', e, _, hc, _, hh⟩
  · cases e; omega
  · cases e; exact ⟨b, o, rfl, hc, hh i hi⟩
set_option maxHeartbeats 4000000 in
theorem motionAlone_any (x0 x1 x2 x3 x4 x5 x6 x7 : Int) (w : World) (h0 : -9223372036854775808 ≤ x0 ∧ x0 ≤ 9223372036854775807) (h1 : -9223372036854775808 ≤ x1 ∧ x1 ≤ 9223372036854775807) (h2 : -9223372036854775808 ≤ x2 ∧ x2 ≤ 9223372036854775807) (h3 : -9223372036854775808 ≤ x3 ∧ x3 ≤ 9223372036854775807) (h4 : -9223372036854775808 ≤ x4 ∧ x4 ≤ 9223372036854775807) (h5 : -9223372036854775808 ≤ x5 ∧ x5 ≤ 9223372036854775807) (h7 : -9223372036854775808 ≤ x7 ∧ x7 ≤ 9223372036854775807) :
    Calls Try.prog 7 #[.int .i64 x0, .int .i64 x1, .int .i64 x2, .int .i64 x3, .int .i64 x4, .int .i64 x5, .int .i64 x6, .int .i64 x7] w fun e w' => e = .returned (.bool true) ∧ Below w.heap.size w w' := by
  obtain ⟨b, hb⟩ : ∃ b, x3 % 6 = b := ⟨_, rfl⟩
  obtain ⟨x, hx⟩ : ∃ x, x4 % 31 = x := ⟨_, rfl⟩
  obtain ⟨y, hy⟩ : ∃ y, x5 % 31 = y := ⟨_, rfl⟩
  have hbb : 0 ≤ b ∧ b ≤ 5 := by omega
  have hxb : 0 ≤ x ∧ x ≤ 30 := by omega
  have hyb : 0 ≤ y ∧ y ≤ 30 := by omega
  have HP := Lib.hid (And.intro hb (And.intro hx hy))
  obtain ⟨qa, hqa⟩ : ∃ qa, x2 % 33 = qa := ⟨_, rfl⟩
  have hqb : 0 ≤ qa ∧ qa ≤ 32 := by omega
  have hs := spot_any x0 x1 x2
  rw [hqa] at hs
  have HS := Lib.hid hs
  clear hb hx hy hs hqa
  go_enter Try.func7, Try.ntmps7
  go_wp2_with (first
    | (go_at_call 30; refine (awake14_any _).mono ?_; rintro e w1 ⟨rfl, hb1⟩; have HB1 := Lib.hid hb1; clear hb1)
    | (go_at_call 36; refine (HS.out _ h0.1 h0.2 h1.1 h1.2 h2.1 h2.2).mono ?_; rintro e w2 ⟨⟨f, g, rfl, hfx, hf, hg⟩, hb2⟩; have HL2 := Lib.hid ((Lies.nil w2).alloc (Obj.cells #[.int .i64 f, .int .i64 g, .int .i64 (1 + qa)] 23)); have HB2 := Lib.hid ((below_nxt HB1.out hb2).alloc (below_nxt HB1.out hb2).size (Obj.cells #[.int .i64 f, .int .i64 g, .int .i64 (1 + qa)] 23)); clear hfx hb2)
    | (go_at_call 21; refine (pick_any _ _ _ (by omega) (by omega) (by decide) (by decide)).mono ?_; (first | rw [HP.out.1] | rw [HP.out.2.1] | rw [HP.out.2.2]); rintro e w' ⟨rfl, rfl⟩)
    | (go_at_call 23; refine (fetch_any f g (1 + qa) (1 + b) (x - 15) (y - 15) _ xs w3 HR3.out (by omega) (by omega) (by omega) (by omega) (by omega) (by omega)).mono ?_; rintro e w4 ⟨⟨u, rfl, hu⟩, hb4⟩; obtain ⟨L, hL⟩ : ∃ L, fetL f g (1 + qa) xs (1 + b) (x - 15) (y - 15) = L := ⟨_, rfl⟩; obtain ⟨E, hE⟩ : ∃ E, fetE f g (1 + qa) xs.length (1 + b) (x - 15) (y - 15) = E := ⟨_, rfl⟩; rw [hL] at hu; rw [hE]; have hl64 : L.length ≤ 64 := (by rw [← hL]; exact fetL_le _ _ _ _ _ _ _); have HLL := Lib.hid hL; have HEE := Lib.hid hE; obtain ⟨LN, hLN⟩ : ∃ LN, L.length = LN := ⟨_, rfl⟩; have HLN := Lib.hid hLN; have hru := Rd.of_owns hu (by omega); have hU0 : ∀ j, u.ownBlock = some j → w3.heap.size ≤ j := (fun j e => (hu.lt j e).1); obtain ⟨ua, uc, rfl⟩ := hru.form; simp only [hLN] at hru hU0; have HRU := Lib.hid hru; have HU := Lib.hid hU0; rw [hLN] at hl64 ⊢; have HL4 := Lib.hid (HL3.out.next hb4); have HP4 := Lib.hid (HP3.out.below hb4); have HB4 := Lib.hid (below_nxt HB3.out hb4); have HZ4 := Lib.hid hb4.size; clear hru hu hU0 hb4 hL hE hLN; have c4 := HP4.out.cell (i := q) (by rw [HXS.out]; exact hqn); have fr4 := HP4.out.free q; obtain ⟨ee, hee⟩ : ∃ ee, xs[q]?.getD 0 = ee := ⟨_, rfl⟩; rw [hee] at c4; have HEX := Lib.hid hee; clear hee; have k0 := HL4.out.head; have c04 := blk_cell k0 0; have c14 := blk_cell k0 1; have c24 := blk_cell k0 2; simp only [List.getElem?_toArray, List.getElem?_cons_zero, List.getElem?_cons_succ] at c04 c14 c24; clear k0; have HZG := Lib.hid (show w2.heap.size < gs by simp at hgs; omega); have HGL : Hid (gs < w3.heap.size) := Lib.hid HP3.out.lt; have HG5 := Lib.hid (grown_set w4 ⟨gs, q, none⟩ (.int .u8 ((ee + 1) % 256))); have HL5 := Lib.hid (HL4.out.grown HG5.out (fun p hp e => by simp at hp; subst hp; simp at e; have := HZG.out; omega)); have HR5 := Lib.hid (show Rd .u8 (w4.setCell ⟨gs, q, none⟩ (.int .u8 ((ee + 1) % 256))) (.slice (some ⟨gs, 0, none⟩) n n) (xs.set q ((ee + 1) % 256)) by have h := (HP4.out.set (i := q) (by rw [HXS.out]; exact hqn) ((ee + 1) % 256)).rd (by rw [List.length_set, HXS.out]; omega) (c := n) (by rw [List.length_set, HXS.out]; omega); rw [List.length_set, HXS.out] at h; exact h); have HP5 := Lib.hid (HP4.out.set (i := q) (by rw [HXS.out]; exact hqn) ((ee + 1) % 256)); have k0 := HL5.out.head; have c05 := blk_cell k0 0; have c15 := blk_cell k0 1; have c25 := blk_cell k0 2; simp only [List.getElem?_toArray, List.getElem?_cons_zero, List.getElem?_cons_succ] at c05 c15 c25; clear k0)
    | (go_at_call 21; refine (pick_any _ _ _ h7.1 h7.2 (by omega) (by omega)).mono ?_; rw [HQ7.out]; rintro e w' ⟨rfl, rfl⟩)
    | (go_at_call 20; refine (scene_any f x6 5 _ hf).mono ?_; rintro e w3 ⟨⟨gs, n, xs, rfl, hns, hxs, hby, hgs, hp3⟩, hb3⟩; have hnb : 38016 ≤ n ∧ n ≤ 152064 := (by clear hxs hby hgs hp3 hb3; rcases hf with rfl | rfl <;> simp [bytesS] at hns <;> omega); have hn0 : ((n : Int) == 0) = false := (by simp; omega); obtain ⟨q, hq, hqn⟩ : ∃ q : Nat, x7 % (n : Int) = q ∧ q < n := ⟨(x7 % (n : Int)).toNat, by have := Int.emod_nonneg x7 (show (n : Int) ≠ 0 by omega); omega, by have := Int.emod_lt_of_pos x7 (show (0 : Int) < n by omega); have := Int.emod_nonneg x7 (show (n : Int) ≠ 0 by omega); omega⟩; have HQ7 := Lib.hid hq; have HN3 := Lib.hid hns; have hr3 := hp3.rd (by omega) (c := n) (by omega); rw [hxs] at hr3; have HR3 := Lib.hid hr3; have HXS := Lib.hid hxs; have HP3 := Lib.hid hp3; have HL3 := Lib.hid (HL2.out.next hb3); have HB3 := Lib.hid (below_nxt HB2.out hb3); clear hns hxs hp3 hby hb3 hr3 hq; have k0 := HL3.out.head; have c03 := blk_cell k0 0; have c13 := blk_cell k0 1; have c23 := blk_cell k0 2; simp only [List.getElem?_toArray, List.getElem?_cons_zero, List.getElem?_cons_succ] at c03 c13 c23; clear k0))
  refine (fetch_any f g (1 + qa) (1 + b) (x - 15) (y - 15) _ (xs.set q ((ee + 1) % 256)) _ HR5.out (by omega) (by omega) (by omega) (by omega) (by omega) (by omega)).mono ?_
  have AL := alone_plain f g (1 + qa) (1 + b) (x - 15) (y - 15) xs q ((ee + 1) % 256) hf (by rw [HEX.out])
  rw [AL.1, HEE.out]
  rw [HLL.out] at AL
  obtain ⟨M, hM⟩ : ∃ M, fetL f g (1 + qa) (xs.set q ((ee + 1) % 256)) (1 + b) (x - 15) (y - 15) = M := ⟨_, rfl⟩
  rw [hM] at AL ⊢
  obtain ⟨_, al2, _, al3⟩ := AL
  rw [HLN.out] at al2 al3
  have AL3 := Lib.hid al3
  rintro e w6 ⟨⟨v, rfl, hv⟩, hb6⟩
  have hrv := Rd.of_owns hv (by omega)
  obtain ⟨va, vc, rfl⟩ := hrv.form
  rw [al2] at hrv ⊢
  have HRV := Lib.hid hrv
  have HRU6 := Lib.hid ((HRU.out.grown HG5.out (fun k e1 e2 => by have := HU.out k e1; have := HGL.out; injection e2 with e2; omega)).below hb6)
  have HB6 := Lib.hid (below_nxt (HB4.out.setCell (p := ⟨gs, q, none⟩) (by show w.heap.size ≤ gs; have := HB2.out.size; omega) (.int .u8 ((ee + 1) % 256))) hb6)
  clear hM al2 al3 hv hrv hb6
  obtain ⟨p, alp⟩ := AL3.out
  have ALP := Lib.hid alp
  clear alp c03 c13 c23 c04 c14 c24 c05 c15 c25 c4 fr4
  go_wp2
  go_loopw [24, 25] (fun far i wr => ∃ k : Nat, k ≤ LN ∧ i = .int .i64 k ∧ (∃ c : Nat, far = .int .i64 c ∧ c ≤ 1 ∧ (c = 0 ∨ p < k)) ∧ ∃ nd, wr = w6.drewN nd) (fun _ i _ => LN - (intOf i).toNat)
  case atStart => exact ⟨0, by omega, rfl, ⟨0, rfl, by omega, .inl rfl⟩, 0, rfl⟩
  case round =>
    obtain ⟨k, hk, rfl, ⟨c, rfl, hc1, hcp⟩, nd, rfl⟩ := hrel
    by_cases hlt : k < LN
    · obtain ⟨b1, o1, rfl, hle1, hcell1⟩ := HRU6.out.at hlt
      obtain ⟨b2, o2, rfl, hle2, hcell2⟩ := HRV.out.at hlt
      have halt := ALP.out k hlt
      generalize L[k]?.getD 0 = e1 at hcell1 halt
      generalize M[k]?.getD 0 = e2 at hcell2 halt
      have t1 : (k : Int) < (LN : Int) := by omega
      by_cases he : e1 = e2
      · subst he
        clear halt
        go_wp2
        go_quiet (fail)
        go_wp2
        go_roundw
        case rel => exact ⟨k + 1, by omega, by go_num, ⟨c, rfl, hc1, by omega⟩, _, rfl⟩
        case measure => simp [intOf]; omega
      · have hkp : k = p ∧ e2 = (e1 + 1) % 256 := by
          rcases halt with h | h
          · exact absurd h he
          · exact h
        have hw : IntKind.u8.wrap (e1 + 1) = e2 := by
          rw [hkp.2]; simp [IntKind.wrap, IntKind.signed, IntKind.bits]
        have hne : (e1 != e2) = true := by simpa using he
        obtain rfl : c = 0 := by omega
        have HKP := Lib.hid hkp.1
        clear halt he hkp
        go_wp2
        go_quiet (fail)
        go_wp2
        go_quiet (fail)
        go_wp2
        go_roundw
        case rel => exact ⟨k + 1, by omega, by go_num, ⟨1, rfl, by omega, .inr (by have := HKP.out; omega)⟩, _, rfl⟩
        case measure => simp [intOf]; omega
    · have e : k = LN := by omega
      subst e
      go_wp2
      go_ret
      exact ⟨by simp; omega, below_drewN HB6.out nd⟩
end Go.Proofs.Ytcieggaihelacaa
