/- Layer 16's statements: PaintBack, walked. -/
import Derived.Test.YtcieggaihelacaaPu
import Derived.Test.YtcieggaihelacaaPr
set_option linter.unusedSimpArgs false
set_option linter.unusedVariables false
namespace Go.Proofs.Ytcieggaihelacaa
open Go.RowKit
set_option maxRecDepth 100000
theorem back_all {f g a b o : Int} {n : Nat} {X U V : List Int} (hf : f = 0 ∨ f = 1) (hg : g ∈ groupsS f) (ha : 1 ≤ a ∧ a ≤ 33) (hx : X.length = n) (hn : (n : Int) = bytesS f) (hu : U.length = 64) (hv : V.length = 64) (hb : 1 ≤ b ∧ b ≤ 6) (ho : 1 ≤ o ∧ o ≤ 6) :
    ∃ X1 X2 : List Int, layL f g a b X U = X1 ∧ layL f g a o X1 V = X2 ∧ layL f g a o X2 V = X2 ∧ X1.length = n ∧ X2.length = n ∧ layE f g a n 64 b = 0 ∧ layE f g a n 64 o = 0 ∧ fetE f g a X2.length b 0 0 = 0 ∧ fetE f g a X2.length o 0 0 = 0 ∧ fetL f g a X2 o 0 0 = V ∧ ∃ L, fetL f g a X2 b 0 0 = L ∧ L.length = 64 ∧ (b = o → L = V) ∧ (b ≠ o → L = U) := by
  have hc := corn_zero hf hg ha
  have l1 : (layL f g a b X U).length = n := by rw [layL_len, hx]
  have l2 : (layL f g a o (layL f g a b X U) V).length = n := by rw [layL_len, l1]
  have hX : (X.length : Int) = bytesS f := by rw [hx]; exact hn
  have hX1 : ((layL f g a b X U).length : Int) = bytesS f := by rw [l1]; exact hn
  have hX2 : ((layL f g a o (layL f g a b X U) V).length : Int) = bytesS f := by rw [l2]; exact hn
  have e1 := (layL_put hc hX hu hb).1
  have e2 := (layL_put hc hX hv ho).1
  rw [hx, hu] at e1
  rw [hx, hv] at e2
  have q1 : b = o → fetL f g a (layL f g a o (layL f g a b X U) V) b 0 0 = V := fun e => by
    subst e; exact back_own hf hc hX1 hv hb
  have q2 : b ≠ o → fetL f g a (layL f g a o (layL f g a b X U) V) b 0 0 = U := fun e => by
    rw [back_other hf hc hX1 hv hb ho e]; exact back_own hf hc hX hu hb
  refine ⟨_, _, rfl, rfl, back_twice hc hX1 hv ho, l1, l2, e1, e2, (fetL_00 hc hX2 hb).1, (fetL_00 hc hX2 ho).1, back_own hf hc hX1 hv ho, _, rfl, ?_, q1, q2⟩
  by_cases e : b = o
  · rw [q1 e]; exact hv
  · rw [q2 e]; exact hu
theorem box_cells {W w' : World} {L : List (Nat × List Int × List Value)} {f g a : Int} (h : St (W.alloc (Obj.cells #[.int .i64 f, .int .i64 g, .int .i64 a] 23)) L w') : w'.cell? ⟨W.heap.size, 0, none⟩ = some (.int .i64 f) ∧ w'.cell? ⟨W.heap.size, 1, none⟩ = some (.int .i64 g) ∧ w'.cell? ⟨W.heap.size, 2, none⟩ = some (.int .i64 a) := by
  have hk : w'.heap[W.heap.size]? = some (Obj.cells #[.int .i64 f, .int .i64 g, .int .i64 a] 23) := blk_kept (World.alloc_heap_new W _) (below_grown h.1 none) (by simp)
  refine ⟨?_, ?_, ?_⟩ <;> rw [blk_cell hk] <;> rfl
theorem rdL {w w' : World} {u : Value} {xs : List Int} (h : w'.ownsRow w.heap.size 5 1 u xs.length (xs.map (Value.int .u8))) (hl : xs.length = 64) : ∃ ua uc, u = .slice ua 64 uc ∧ Rd .u8 w' (.slice ua 64 uc) xs := by
  have h1 := Rd.of_owns h (by omega)
  obtain ⟨ua, uc, rfl⟩ := h1.form
  rw [hl] at h1 ⊢
  exact ⟨ua, uc, rfl, h1⟩
set_option maxHeartbeats 8000000 in
theorem paintBack_any (x0 x1 x2 x3 x4 x5 x6 x y : Int) (w : World) (h0 : -9223372036854775808 ≤ x0 ∧ x0 ≤ 9223372036854775807) (h1 : -9223372036854775808 ≤ x1 ∧ x1 ≤ 9223372036854775807) (h2 : -9223372036854775808 ≤ x2 ∧ x2 ≤ 9223372036854775807) (h3 : -9223372036854775808 ≤ x3 ∧ x3 ≤ 9223372036854775807) (h4 : -9223372036854775808 ≤ x4 ∧ x4 ≤ 9223372036854775807) :
    Calls Try.prog 19 #[.int .i64 x0, .int .i64 x1, .int .i64 x2, .int .i64 x3, .int .i64 x4, .int .i64 x5, .int .i64 x6, .int .u8 x, .int .u8 y] w fun e w' => e = .returned (.bool true) ∧ Below w.heap.size w w' := by
  obtain ⟨b, hb⟩ : ∃ b, x3 % 6 = b := ⟨_, rfl⟩
  obtain ⟨o, ho⟩ : ∃ o, x4 % 6 = o := ⟨_, rfl⟩
  have hbb : 0 ≤ b ∧ b ≤ 5 := by omega
  have hob : 0 ≤ o ∧ o ≤ 5 := by omega
  have HP := Lib.hid (And.intro hb ho)
  obtain ⟨qa, hqa⟩ : ∃ qa, x2 % 33 = qa := ⟨_, rfl⟩
  have hqb : 0 ≤ qa ∧ qa ≤ 32 := by omega
  have hs := spot_any x0 x1 x2
  rw [hqa] at hs
  have HS := Lib.hid hs
  clear hb ho hs hqa
  obtain ⟨U, hU⟩ : ∃ U, (List.replicate 64 x).set 9 ((x + 1) % 256) = U := ⟨_, rfl⟩
  obtain ⟨V, hV⟩ : ∃ V, (List.replicate 64 y).set 54 ((y + 3) % 256) = V := ⟨_, rfl⟩
  have HU : Hid ((List.replicate 64 x).set 9 ((x + 1) % 256) = U ∧ U.length = 64) := ⟨hU, by rw [← hU]; simp⟩
  have HV : Hid ((List.replicate 64 y).set 54 ((y + 3) % 256) = V ∧ V.length = 64) := ⟨hV, by rw [← hV]; simp⟩
  clear hU hV
  go_enter Try.func19, Try.ntmps19
  go_wp2_with (first
    | (go_at_call 18; refine (paintKnown_any _).mono ?_; rintro e w1 ⟨rfl, hb1⟩; have HB1 := Lib.hid hb1; clear hb1)
    | (go_at_call 36; refine (HS.out _ h0.1 h0.2 h1.1 h1.2 h2.1 h2.2).mono ?_; rintro e w2 ⟨⟨f, g, rfl, hfx, hf, hg⟩, hb2⟩; have S0 := Lib.hid (St.nil (w2.alloc (Obj.cells #[.int .i64 f, .int .i64 g, .int .i64 (1 + qa)] 23))); have HB2 := Lib.hid ((below_nxt HB1.out hb2).alloc (below_nxt HB1.out hb2).size (Obj.cells #[.int .i64 f, .int .i64 g, .int .i64 (1 + qa)] 23)); clear hfx hb2)
    | (go_at_call 21; refine (pick_any _ _ _ (by omega) (by omega) (by decide) (by decide)).mono ?_; (first | rw [HP.out.1] | rw [HP.out.2]); rintro e w' ⟨rfl, rfl⟩)
    | (go_at_call 20; refine (scene_any f x5 x6 _ hf).mono ?_; rintro e w3 ⟨⟨g3, n, X, rfl, hns, hxs, _, hg3, hp3⟩, hb3⟩; have hnb : n ≤ 152064 := (by clear hxs hg3 hp3 hb3; rcases hf with rfl | rfl <;> simp [bytesS] at hns <;> omega); obtain ⟨X1, X2, e1, e2, e3, l1, l2, E1, E2, F1, F2, F3, L, F4, L64, q1, q2⟩ := back_all (b := 1 + b) (o := 1 + o) hf hg (a := 1 + qa) (by omega) hxs hns HU.out.2 HV.out.2 (by omega) (by omega); have HX := Lib.hid (And.intro hxs (And.intro l1 l2)); have HL := Lib.hid (And.intro e1 (And.intro e2 e3)); have HE := Lib.hid (And.intro E1 E2); have HF := Lib.hid (And.intro F1 (And.intro F2 (And.intro F3 F4))); have HQ := Lib.hid (And.intro L64 (And.intro q1 q2)); have S3 := Lib.hid (S0.out.push hb3 hg3 hp3); clear hns hxs hg3 hp3 hb3 e1 e2 e3 l1 l2 E1 E2 F1 F2 F3 F4 L64 q1 q2; have hn1 : n ≤ 1000000 := by omega)
    | (go_at_call 71; (with_reducible refine (same64_any x w3).mono ?_); rintro e w4 ⟨⟨g4, rfl, hg4, hp4⟩, hb4⟩; have S4 := Lib.hid (S3.out.push hb4 hg4 hp4); clear hg4 hp4 hb4)
    | (go_at_call 71; (with_reducible refine (same64_any y w4).mono ?_); rintro e w5 ⟨⟨g5, rfl, hg5, hp5⟩, hb5⟩; have S5 := Lib.hid (S4.out.push hb5 hg5 hp5); clear hg5 hp5 hb5; have k9 := (S5.out.pic 1 rfl).cell (i := 9) (by simp); have r9 := (S5.out.pic 1 rfl).free 9; have p9 := (S5.out.pic 1 rfl).set (i := 9) (by simp) ((x + 1) % 256); rw [HU.out.1] at p9; have S5a := Lib.hid (S5.out.upd 1 rfl (grown_set _ _ _) p9); have k54 := (S5a.out.pic 0 rfl).cell (i := 54) (by simp); have r54 := (S5a.out.pic 0 rfl).free 54; have p54 := (S5a.out.pic 0 rfl).set (i := 54) (by simp) ((y + 3) % 256); rw [HV.out.1] at p54; have S6 := Lib.hid (S5a.out.upd 0 rfl (grown_set _ _ _) p54); clear p9 p54; obtain ⟨c0, c1, c2⟩ := box_cells S6.out)
    | (go_at_call 65; (with_reducible refine (lay_n f g (1 + qa) (1 + b) g3 n X U [] (.slice (some ⟨g4, 0, none⟩) 64 64) _ (S6.out.pic 2 rfl) ((S6.out.pic 1 rfl).rdn HU.out.2 (by decide) (by decide)) (own_ne (S6.out.ne 1 2 rfl rfl (by decide))) n 64 HX.out.1 HU.out.2 (Nat.le_refl n) hn1 (by omega) (by omega)).mono ?_); rw [HE.out.1, HL.out.1]; rintro e w7 ⟨rfl, hp7, hg7⟩; have S7 := Lib.hid (S6.out.upd 2 rfl hg7 hp7); clear hp7 hg7 c0 c1 c2 k9 r9 k54 r54; obtain ⟨c0, c1, c2⟩ := box_cells S7.out)
    | (go_at_call 65; (with_reducible refine (lay_n f g (1 + qa) (1 + o) g3 n X1 V [] (.slice (some ⟨g5, 0, none⟩) 64 64) w7 (S7.out.pic 2 rfl) ((S7.out.pic 0 rfl).rdn HV.out.2 (by decide) (by decide)) (own_ne (S7.out.ne 0 2 rfl rfl (by decide))) n 64 HX.out.2.1 HV.out.2 (Nat.le_refl n) hn1 (by omega) (by omega)).mono ?_); rw [HE.out.2, HL.out.2.1]; rintro e w8 ⟨rfl, hp8, hg8⟩; have S8 := Lib.hid (S7.out.upd 2 rfl hg8 hp8); clear hp8 hg8 c0 c1 c2)
    | (go_at_call 64; refine (copyBytes_any (.slice (some ⟨g3, 0, none⟩) n n) X2 w8 ((S8.out.pic 2 rfl).rdn HX.out.2.2 hn1 (Nat.le_refl n)) (by rw [HX.out.2.2]; exact hn1)).mono ?_; rintro e w9 ⟨⟨r, rfl, hr⟩, hb9⟩; have RO := Rd.of_owns hr (by rw [HX.out.2.2]; omega); have hro : ∀ k, r.ownBlock = some k → w8.heap.size ≤ k := (fun k e => (hr.lt k e).1); have hrk : ∀ k, r.ownBlock = some k → k ≠ g3 := (fun k e h => by have := hro k e; have := (S8.out.pic 2 rfl).lt; omega); have HRK := Lib.hid hrk; obtain ⟨ra, rc, rfl⟩ := RO.form; rw [HX.out.2.2] at RO HRK ⊢; have HRO := Lib.hid RO; have S9 := Lib.hid (S8.out.below hb9); clear hr hro hrk RO hb9; obtain ⟨c0, c1, c2⟩ := box_cells S9.out)
    | (go_at_call 65; (with_reducible refine (lay_n f g (1 + qa) (1 + o) g3 n X2 V [] (.slice (some ⟨g5, 0, none⟩) 64 64) w9 (S9.out.pic 2 rfl) ((S9.out.pic 0 rfl).rdn HV.out.2 (by decide) (by decide)) (own_ne (S9.out.ne 0 2 rfl rfl (by decide))) n 64 HX.out.2.2 HV.out.2 (Nat.le_refl n) hn1 (by omega) (by omega)).mono ?_); rw [HE.out.2, HL.out.2.2]; rintro e w10 ⟨rfl, hp10, hg10⟩; have S10 := Lib.hid (S9.out.upd 2 rfl hg10 hp10); have HRA := Lib.hid (HRO.out.grown hg10 (fun k hk e => HRK.out k hk (by cases e; rfl))); clear hp10 hg10 c0 c1 c2; obtain ⟨c0, c1, c2⟩ := box_cells S10.out)
    | (go_at_call 25; (with_reducible refine (sameBytes_true _ _ X2 w10 HRA.out ((S10.out.pic 2 rfl).rdn HX.out.2.2 hn1 (Nat.le_refl n))).mono ?_); rintro e w' ⟨rfl, rfl⟩)
    | (go_at_call 23; (with_reducible refine (fetch_any f g (1 + qa) (1 + b) 0 0 (.slice (some ⟨g3, 0, none⟩) n n) X2 w10 ((S10.out.pic 2 rfl).rdn HX.out.2.2 hn1 (Nat.le_refl n)) (by omega) (by omega) (by decide) (by decide) (by decide) (by decide)).mono ?_); rw [HF.out.1, HF.out.2.2.2]; rintro e w11 ⟨⟨u, rfl, hu⟩, hb11⟩; obtain ⟨ua, uc, rfl, hru⟩ := rdL hu HQ.out.1; have HRL := Lib.hid hru; have S11 := Lib.hid (S10.out.below hb11); clear hu hru hb11 c0 c1 c2; obtain ⟨c0, c1, c2⟩ := box_cells S11.out)
    | (go_at_call 23; (with_reducible refine (fetch_any f g (1 + qa) (1 + o) 0 0 (.slice (some ⟨g3, 0, none⟩) n n) X2 w11 ((S11.out.pic 2 rfl).rdn HX.out.2.2 hn1 (Nat.le_refl n)) (by omega) (by omega) (by decide) (by decide) (by decide) (by decide)).mono ?_); rw [HF.out.2.1, HF.out.2.2.1]; rintro e w12 ⟨⟨u2, rfl, hu⟩, hb12⟩; obtain ⟨va, vc, rfl, hru⟩ := rdL hu HV.out.2; have HRM := Lib.hid hru; have HRL2 := Lib.hid (HRL.out.below hb12); have S12 := Lib.hid (S11.out.below hb12); clear hu hru hb12 c0 c1 c2)
    | (go_at_call 25; (with_reducible refine (sameBytes_true (.slice va 64 vc) (.slice (some ⟨g5, 0, none⟩) 64 64) V w12 HRM.out ((S12.out.pic 0 rfl).rdn HV.out.2 (by decide) (by decide))).mono ?_); rintro e w' ⟨rfl, rfl⟩)
    | (go_at_call 25; (with_reducible refine (sameBytes_true (.slice ua 64 uc) (.slice (some ⟨g4, 0, none⟩) 64 64) L w12 HRL2.out (by rw [HQ.out.2.2 (ne_of_beq_false (by assumption))]; exact (S12.out.pic 1 rfl).rdn HU.out.2 (by decide) (by decide))).mono ?_); rintro e w' ⟨rfl, rfl⟩)
    | (go_at_call 25; (with_reducible refine (sameBytes_true (.slice ua 64 uc) (.slice (some ⟨g5, 0, none⟩) 64 64) L w12 HRL2.out (by rw [HQ.out.2.1 (eq_of_beq (by assumption))]; exact (S12.out.pic 0 rfl).rdn HV.out.2 (by decide) (by decide))).mono ?_); rintro e w' ⟨rfl, rfl⟩))
  all_goals (go_ret; exact ⟨rfl, HB2.out.trans (S12.out.old.mono HB2.out.size)⟩)
end Go.Proofs.Ytcieggaihelacaa
