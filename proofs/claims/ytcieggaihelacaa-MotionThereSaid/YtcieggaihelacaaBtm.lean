/- Layer 16's statements: PaintKnown, walked. -/
import Derived.Test.YtcieggaihelacaaBtl
import Derived.Test.YtcieggaihelacaaRows
import Derived.WalkKit
import Derived.ProofKit
import Derived.OpenShut
set_option linter.unusedSimpArgs false
set_option linter.unusedVariables false
namespace Go.Proofs.Ytcieggaihelacaa
open Go.RowKit
set_option maxRecDepth 100000
theorem below_new (w : World) (o : Obj) : Below w.heap.size w (w.alloc o) := (Below.refl w.heap.size w).alloc (Nat.le_refl _) o
def G0 : List Int := List.replicate 38016 128
abbrev S7 : List Int := List.replicate 64 7
theorem layQ_first (i : Nat) : layQ 0 1 1 1 i = i / 8 * 176 + i % 8 := by
  unfold layQ
  rw [fetI_0]
  have e1 : plcV 0 (cornerX 0 1 1) (cornerY 1 1) 1 = 0 := by decide
  have e2 : plcS 0 1 = 176 := by decide
  rw [e1, e2]
  omega
theorem layE_first : layE 0 1 1 38016 64 1 = 0 := by decide
theorem G0_len : G0.length = 38016 := by unfold G0; rw [List.length_replicate]
theorem layL_first : layL 0 1 1 1 G0 S7 = put (layQ 0 1 1 1) (fun i => S7[i]?.getD 0) 64 G0 := by
  unfold layL
  rw [G0_len, if_pos (by exact layE_first)]
theorem hit_first (i : Nat) (hi : i < 64) : (layL 0 1 1 1 G0 S7)[i / 8 * 176 + i % 8]?.getD 0 = 7 := by
  rw [layL_first, ← layQ_first, put_hit hi (fun j h1 h2 e => by rw [layQ_first, layQ_first] at e; omega) (by rw [layQ_first, G0_len]; omega)]
  unfold S7
  rw [Option.getD_some, List.getElem?_replicate, if_pos hi, Option.getD_some]
theorem miss_first (m : Nat) (hm : m < 38016) (h : ∀ i, i < 64 → i / 8 * 176 + i % 8 ≠ m) : (layL 0 1 1 1 G0 S7)[m]?.getD 0 = 128 := by
  rw [layL_first, put_miss (fun i hi => by rw [layQ_first]; exact h i hi)]
  unfold G0
  rw [List.getElem?_replicate, if_pos hm, Option.getD_some]
theorem rd_12 (w : World) : Rd .u8 (w.alloc (.cells #[.int .u8 1, .int .u8 2] 5)) (.slice (some ⟨w.heap.size, 0, none⟩) 2 2) [1, 2] := Rd.lit .u8 5 [1, 2] w (by decide)
theorem rd_12i (w : World) : Rd .i64 (w.alloc (.cells #[.int .i64 1, .int .i64 2] 3)) (.slice (some ⟨w.heap.size, 0, none⟩) 2 2) [1, 2] := Rd.lit .i64 3 [1, 2] w (by decide)
theorem rd_12j (w : World) (o : Obj) : Rd .i64 ((w.alloc o).alloc (.cells #[.int .i64 1, .int .i64 2] 3)) (.slice (some ⟨w.heap.size + 1, 0, none⟩) 2 2) [1, 2] := by
  have h := rd_12i (w.alloc o)
  rw [show (w.alloc o).heap.size = w.heap.size + 1 by simp] at h
  exact h
theorem rd_123' (w : World) : Rd .u8 (w.alloc (.cells #[.int .u8 1, .int .u8 2, .int .u8 3] 5)) (.slice (some ⟨w.heap.size, 0, none⟩) 3 3) [1, 2, 3] := Rd.lit .u8 5 [1, 2, 3] w (by decide)
theorem pic_64 {w : World} {g : Nat} {x : Int} (h : Pic w g (List.replicate 64 x) []) : Rd .u8 w (.slice (some ⟨g, 0, none⟩) 64 64) (List.replicate 64 x) := h.rdn (by simp) (by decide) (by decide)
theorem picI_64 {w : World} {g : Nat} {x : Int} (h : PicI w g (List.replicate 64 x)) : Rd .i64 w (.slice (some ⟨g, 0, none⟩) 64 64) (List.replicate 64 x) := by
  have h2 := h.rd (by simp); rw [List.length_replicate] at h2; exact h2
/-- What the walk reads of the picture. -/
theorem known_cells {w : World} {g : Nat} {tl : List Value} (h : Pic w g (layL 0 1 1 1 G0 S7) tl) : w.cell? ⟨g, 0, none⟩ = some (.int .u8 7) ∧ w.cell? ⟨g, 7, none⟩ = some (.int .u8 7) ∧ w.cell? ⟨g, 8, none⟩ = some (.int .u8 128) ∧ w.cell? ⟨g, 176, none⟩ = some (.int .u8 7) ∧ w.cell? ⟨g, 175, none⟩ = some (.int .u8 128) := by
  have hl : (layL 0 1 1 1 G0 S7).length = 38016 := by rw [layL_len, G0_len]
  refine ⟨?_, ?_, ?_, ?_, ?_⟩
  · rw [h.cell (by omega)]; have := hit_first 0 (by decide); rw [show 0 / 8 * 176 + 0 % 8 = 0 by decide] at this; rw [this]
  · rw [h.cell (by omega)]; have := hit_first 7 (by decide); rw [show 7 / 8 * 176 + 7 % 8 = 7 by decide] at this; rw [this]
  · rw [h.cell (by omega), miss_first 8 (by decide) (fun i hi => by omega)]
  · rw [h.cell (by omega)]; have := hit_first 8 (by decide); rw [show 8 / 8 * 176 + 8 % 8 = 176 by decide] at this; rw [this]
  · rw [h.cell (by omega), miss_first 175 (by decide) (fun i hi => by omega)]
theorem GreyV.one {w w' : World} {r : Value} (h : GreyV 0 w w' r) : ∃ g tl, r = .slice (some ⟨g, 0, none⟩) 38016 38016 ∧ w.heap.size ≤ g ∧ Pic w' g G0 tl := by
  rcases h with ⟨h, _⟩ | ⟨g, n, tl, h, rfl, hn, hl, hg, hp⟩
  · exact absurd (by decide) h
  · have hb : bytesS 0 = 38016 := by decide
    have : n = 38016 := by omega
    subst this
    exact ⟨g, tl, rfl, hg, hp⟩
theorem GreyV.none {w w' : World} {r : Value} (h : GreyV 2 w w' r) : r = .slice none 0 0 := by
  rcases h with ⟨_, h⟩ | ⟨g, n, tl, h, _⟩
  · exact h
  · exact absurd h (by decide)
theorem known_adds : addE ([1, 2] : List Int).length [1, 2] = 2 ∧ addE (List.replicate 64 (3 : Int)).length (List.replicate 64 2097152) = 3 ∧ addE 64 (List.replicate 64 (77 : Int)) = 0 ∧ addL zero64 (List.replicate 64 77) = List.replicate 64 77 := by
  refine ⟨by decide, by decide, by decide, ?_⟩
  have h := (add_rep (x := 0) (y := 77) (by decide)).2
  exact h
theorem known_bads : layE 0 1 1 38016 64 7 = 3 ∧ layE 0 1 1 3 64 1 = 2 ∧ cpE 0 1 1 38016 3 = 2 := by decide
theorem copy_three (g1 : Nat) (u : Value) (w : World) (h : Rd .u8 w u [1, 2, 3]) :
    Calls Try.prog 56 #[.slice (some ⟨g1, 0, none⟩) 38016 38016, u, .agg #[.int .i64 0, .int .i64 1, .int .i64 1]] w fun e w' => e = .returned (.int .i64 2) ∧ Below w.heap.size w w' := by
  have hb : cpE 0 1 1 38016 ([1, 2, 3] : List Int).length = 2 := by decide
  have h := copy_bad 0 1 1 (some ⟨g1, 0, none⟩) 38016 38016 u [1, 2, 3] w h (by decide) (by decide) (by decide) (by rw [hb]; decide)
  rw [hb] at h
  exact h
set_option maxHeartbeats 8000000 in
theorem paintKnown_any (w : World) : Calls Try.prog 18 #[] w fun e w' => e = .returned (.bool true) ∧ Below w.heap.size w w' := by
  have HS := Lib.hid (St.nil w)
  have HA := Lib.hid known_adds
  have HBD := Lib.hid known_bads
  have HE := Lib.hid layE_first
  have H12 : Hid (byt [1, 2]) := Lib.hid (fun x hx => by simp at hx; omega)
  go_enter Try.func18, Try.ntmps18
  go_wp2_with (first
    | (go_at_call 68; (with_reducible refine (grey_any 0 _).mono ?_); rintro e w1 ⟨⟨r, rfl, hr⟩, hb'⟩; obtain ⟨g1, tl, rfl, hg1, hp1⟩ := hr.one; replace HS := Lib.hid (HS.out.push hb' hg1 hp1); have c1 := hp1.cell (i := 38015) (by rw [G0_len]; decide); rw [show G0[38015]?.getD 0 = 128 by unfold G0; rw [List.getElem?_replicate, if_pos (by decide), Option.getD_some]] at c1; clear hb' hg1 hp1 hr)
    | (go_at_call 68; (with_reducible refine (grey_any 2 _).mono ?_); rintro e w1 ⟨⟨r, rfl, hr⟩, hb'⟩; obtain rfl := hr.none; replace HS := Lib.hid (HS.out.below hb'); clear hb' hr)
    | (go_at_call 70; refine (qcif16_any _ _ _).mono ?_; rintro e w1 ⟨rfl, hb'⟩; replace HS := Lib.hid (HS.out.below hb'); (first | (replace RC := Lib.hid (RC.out.below hb')) | skip); clear hb')
    | (go_at_call 71; refine (same64_any _ _).mono ?_; rintro e w1 ⟨⟨gA, rfl, hgA, hpA⟩, hb'⟩; have NE := Lib.hid (own_ne (m := 64) (c := 64) (Nat.ne_of_gt (Nat.lt_of_lt_of_le (HS.out.pic 0 rfl).lt hgA))); have RA := Lib.hid (pic_64 hpA); replace HS := Lib.hid (HS.out.below hb'); (first | (replace RC := Lib.hid (RC.out.below hb')) | skip); (first | (replace RF := Lib.hid (RF.out.below hb')) | skip); clear hb' hgA hpA)
    | (go_at_call 72; refine (ints64_any _ _).mono ?_; rintro e w1 ⟨⟨gI, rfl, hgI, hpI⟩, hb'⟩; have RI := Lib.hid (picI_64 hpI); replace HS := Lib.hid (HS.out.below hb'); (first | (replace RA := Lib.hid (RA.out.below hb')) | skip); clear hb' hgI hpI)
    | (go_at_call 58; (with_reducible refine (add_any _ _ [1, 2] [1, 2] _ ((rd_12 _).alloc _) H12.out (rd_12j _ _)).mono ?_); rw [HA.out.1]; rintro e w1 ⟨⟨r1, rfl, hr1⟩, hb'⟩; replace HS := Lib.hid (((HS.out.below (below_new _ _)).below (below_new _ _)).below hb'); clear hb' hr1)
    | (go_at_call 58; (with_reducible refine (add_any _ _ (List.replicate 64 3) (List.replicate 64 2097152) _ RA.out (rep_byt (by decide) 64) RI.out).mono ?_); rw [HA.out.2.1]; rintro e w1 ⟨⟨r2, rfl, hr2⟩, hb'⟩; replace HS := Lib.hid (HS.out.below hb'); clear hb' hr2)
    | (go_at_call 60; (with_reducible refine (flat_any _ (List.replicate 64 77) _ RI.out).mono ?_); rw [HA.out.2.2.1, HA.out.2.2.2]; rintro e w1 ⟨⟨r3, rfl, hr3⟩, hb'⟩; replace HS := Lib.hid (HS.out.below hb'); have RF := Lib.hid (Rd.of_owns hr3 (by rw [List.length_replicate]; decide)); obtain ⟨k1, k2, k3, k4, k5⟩ := known_cells (HS.out.pic 0 rfl); clear hb' hr3)
    | (go_at_call 55; refine (awake16_any _).mono ?_; rintro e w1 ⟨rfl, hb'⟩; have RC := Lib.hid ((rd_123' _).below hb'); replace RF := Lib.hid ((RF.out.below (below_new _ _)).below hb'); replace HS := Lib.hid ((HS.out.below (below_new _ _)).below hb'); clear hb')
    | (go_at_call 25; refine (sameBytes_true _ _ (List.replicate 64 77) _ RF.out RA.out).mono ?_; rintro e w' ⟨rfl, rfl⟩)
    | (go_at_call 65; (with_reducible refine (lay_bad 0 1 1 7 g1 38016 38016 _ (List.replicate 64 7) _ RA.out (by decide) (by decide) (by decide) (by rw [List.length_replicate, HBD.out.1]; decide)).mono ?_); rw [List.length_replicate, HBD.out.1]; rintro e w1 ⟨rfl, hb'⟩; replace HS := Lib.hid (HS.out.below hb'); replace RC := Lib.hid (RC.out.below hb'); clear hb')
    | (go_at_call 65; (with_reducible refine (lay_bad 0 1 1 1 _ 3 3 _ (List.replicate 64 7) _ RA.out (by decide) (by decide) (by decide) (by rw [List.length_replicate, HBD.out.2.1]; decide)).mono ?_); rw [List.length_replicate, HBD.out.2.1]; rintro e w1 ⟨rfl, hb'⟩; replace HS := Lib.hid (HS.out.below hb'); replace RC := Lib.hid (RC.out.below hb'); clear hb')
    | (go_at_call 65; (with_reducible refine (lay_n 0 1 1 1 g1 38016 G0 S7 tl _ _ (HS.out.pic 0 rfl) RA.out NE.out 38016 64 G0_len (by unfold S7; rw [List.length_replicate]) (by decide) (by decide) (by decide) (by decide)).mono ?_); rw [HE.out]; rintro e w1 ⟨rfl, hpL, hgL⟩; replace HS := Lib.hid (HS.out.upd 0 rfl hgL hpL); clear hpL hgL)
    | (go_at_call 56; refine (copy_three _ _ _ RC.out).mono ?_; rintro e w1 ⟨rfl, hb'⟩; replace HS := Lib.hid (HS.out.below hb'); clear hb'))
  go_ret
  exact ⟨rfl, HS.out.old⟩
end Go.Proofs.Ytcieggaihelacaa
/- Layer 16's statements: PaintBack, walked. -/
set_option linter.unusedSimpArgs false
set_option linter.unusedVariables false
namespace Go.Proofs.Ytcieggaihelacaa
open Go.RowKit
set_option maxRecDepth 100000
theorem back_all {f g a b o : Int} {n : Nat} {X U V : List Int} (hf : f = 0 ∨ f = 1) (hg : g ∈ groupsS f) (ha : 1 ≤ a ∧ a ≤ 33) (hx : X.length = n) (hn : (n : Int) = bytesS f) (hu : U.length = 64) (hv : V.length = 64) (hb : 1 ≤ b ∧ b ≤ 6) (ho : 1 ≤ o ∧ o ≤ 6) :
    ∃ X1 X2 : List Int, layL f g a b X U = X1 ∧ layL f g a o X1 V = X2 ∧ layL f g a o X2 V = X2 ∧ X1.length = n ∧ X2.length = n ∧ layE f g a n 64 b = 0 ∧ layE f g a n 64 o = 0 ∧ fetE f g a X2.length b 0 0 = 0 ∧ fetE f g a X2.length o 0 0 = 0 ∧ fetL f g a X2 o 0 0 = V ∧ ∃ L, fetL f g a X2 b 0 0 = L ∧ L.length = 64 ∧ (b = o → L = V) ∧ (b ≠ o → L = U) := by
  have hc := corn_zero hf hg ha
  have l1 : (layL f g a b X U).length = n := by rw [layL_len, hx]
  have l2 : (layL f g a o (layL f g a b X U) V).length = n := by rw [layL_len, l1]
  have hX : (X.length : Int) = bytesS f := by rw [hx]; exact hn
  have hX1 : ((layL f g a b X U).length : Int) = bytesS f := by rw [l1]; exact hn
  have hX2 : ((layL f g a o (layL f g a b X U) V).length : Int) = bytesS f := by rw [l2]; exact hn
  have e1 := (layL_put hc hX hu hb).1
  have e2 := (layL_put hc hX hv ho).1
  rw [hx, hu] at e1
  rw [hx, hv] at e2
  have q1 : b = o → fetL f g a (layL f g a o (layL f g a b X U) V) b 0 0 = V := fun e => by
    subst e; exact back_own hf hc hX1 hv hb
  have q2 : b ≠ o → fetL f g a (layL f g a o (layL f g a b X U) V) b 0 0 = U := fun e => by
    rw [back_other hf hc hX1 hv hb ho e]; exact back_own hf hc hX hu hb
  refine ⟨_, _, rfl, rfl, back_twice hc hX1 hv ho, l1, l2, e1, e2, (fetL_00 hc hX2 hb).1, (fetL_00 hc hX2 ho).1, back_own hf hc hX1 hv ho, _, rfl, ?_, q1, q2⟩
  by_cases e : b = o
  · rw [q1 e]; exact hv
  · rw [q2 e]; exact hu
theorem box_cells {W w' : World} {L : List (Nat × List Int × List Value)} {f g a : Int} (h : St (W.alloc (Obj.cells #[.int .i64 f, .int .i64 g, .int .i64 a] 23)) L w') : w'.cell? ⟨W.heap.size, 0, none⟩ = some (.int .i64 f) ∧ w'.cell? ⟨W.heap.size, 1, none⟩ = some (.int .i64 g) ∧ w'.cell? ⟨W.heap.size, 2, none⟩ = some (.int .i64 a) := by
  have hk : w'.heap[W.heap.size]? = some (Obj.cells #[.int .i64 f, .int .i64 g, .int .i64 a] 23) := blk_kept (World.alloc_heap_new W _) (below_grown h.1 none) (by simp)
  refine ⟨?_, ?_, ?_⟩ <;> rw [blk_cell hk] <;> rfl
theorem rdL {w w' : World} {u : Value} {xs : List Int} (h : w'.ownsRow w.heap.size 5 1 u xs.length (xs.map (Value.int .u8))) (hl : xs.length = 64) : ∃ ua uc, u = .slice ua 64 uc ∧ Rd .u8 w' (.slice ua 64 uc) xs := by
  have h1 := Rd.of_owns h (by omega)
  obtain ⟨ua, uc, rfl⟩ := h1.form
  rw [hl] at h1 ⊢
  exact ⟨ua, uc, rfl, h1⟩
set_option maxHeartbeats 8000000 in
theorem paintBack_any (x0 x1 x2 x3 x4 x5 x6 x y : Int) (w : World) (h0 : -9223372036854775808 ≤ x0 ∧ x0 ≤ 9223372036854775807) (h1 : -9223372036854775808 ≤ x1 ∧ x1 ≤ 9223372036854775807) (h2 : -9223372036854775808 ≤ x2 ∧ x2 ≤ 9223372036854775807) (h3 : -9223372036854775808 ≤ x3 ∧ x3 ≤ 9223372036854775807) (h4 : -9223372036854775808 ≤ x4 ∧ x4 ≤ 9223372036854775807) :
    Calls Try.prog 19 #[.int .i64 x0, .int .i64 x1, .int .i64 x2, .int .i64 x3, .int .i64 x4, .int .i64 x5, .int .i64 x6, .int .u8 x, .int .u8 y] w fun e w' => e = .returned (.bool true) ∧ Below w.heap.size w w' := by
  obtain ⟨b, hb⟩ : ∃ b, x3 % 6 = b := ⟨_, rfl⟩
  obtain ⟨o, ho⟩ : ∃ o, x4 % 6 = o := ⟨_, rfl⟩
  have hbb : 0 ≤ b ∧ b ≤ 5 := by omega
  have hob : 0 ≤ o ∧ o ≤ 5 := by omega
  have HP := Lib.hid (And.intro hb ho)
  obtain ⟨qa, hqa⟩ : ∃ qa, x2 % 33 = qa := ⟨_, rfl⟩
  have hqb : 0 ≤ qa ∧ qa ≤ 32 := by omega
  have hs := spot_any x0 x1 x2
  rw [hqa] at hs
  have HS := Lib.hid hs
  clear hb ho hs hqa
  obtain ⟨U, hU⟩ : ∃ U, (List.replicate 64 x).set 9 ((x + 1) % 256) = U := ⟨_, rfl⟩
  obtain ⟨V, hV⟩ : ∃ V, (List.replicate 64 y).set 54 ((y + 3) % 256) = V := ⟨_, rfl⟩
  have HU : Hid ((List.replicate 64 x).set 9 ((x + 1) % 256) = U ∧ U.length = 64) := ⟨hU, by rw [← hU]; simp⟩
  have HV : Hid ((List.replicate 64 y).set 54 ((y + 3) % 256) = V ∧ V.length = 64) := ⟨hV, by rw [← hV]; simp⟩
  clear hU hV
  go_enter Try.func19, Try.ntmps19
  go_wp2_with (first
    | (go_at_call 18; refine (paintKnown_any _).mono ?_; rintro e w1 ⟨rfl, hb1⟩; have HB1 := Lib.hid hb1; clear hb1)
    | (go_at_call 36; refine (HS.out _ h0.1 h0.2 h1.1 h1.2 h2.1 h2.2).mono ?_; rintro e w2 ⟨⟨f, g, rfl, hfx, hf, hg⟩, hb2⟩; have S0 := Lib.hid (St.nil (w2.alloc (Obj.cells #[.int .i64 f, .int .i64 g, .int .i64 (1 + qa)] 23))); have HB2 := Lib.hid ((below_nxt HB1.out hb2).alloc (below_nxt HB1.out hb2).size (Obj.cells #[.int .i64 f, .int .i64 g, .int .i64 (1 + qa)] 23)); clear hfx hb2)
    | (go_at_call 21; refine (pick_any _ _ _ (by omega) (by omega) (by decide) (by decide)).mono ?_; (first | rw [HP.out.1] | rw [HP.out.2]); rintro e w' ⟨rfl, rfl⟩)
    | (go_at_call 20; refine (scene_any f x5 x6 _ hf).mono ?_; rintro e w3 ⟨⟨g3, n, X, rfl, hns, hxs, _, hg3, hp3⟩, hb3⟩; have hnb : n ≤ 152064 := (by clear hxs hg3 hp3 hb3; rcases hf with rfl | rfl <;> simp [bytesS] at hns <;> omega); obtain ⟨X1, X2, e1, e2, e3, l1, l2, E1, E2, F1, F2, F3, L, F4, L64, q1, q2⟩ := back_all (b := 1 + b) (o := 1 + o) hf hg (a := 1 + qa) (by omega) hxs hns HU.out.2 HV.out.2 (by omega) (by omega); have HX := Lib.hid (And.intro hxs (And.intro l1 l2)); have HL := Lib.hid (And.intro e1 (And.intro e2 e3)); have HE := Lib.hid (And.intro E1 E2); have HF := Lib.hid (And.intro F1 (And.intro F2 (And.intro F3 F4))); have HQ := Lib.hid (And.intro L64 (And.intro q1 q2)); have S3 := Lib.hid (S0.out.push hb3 hg3 hp3); clear hns hxs hg3 hp3 hb3 e1 e2 e3 l1 l2 E1 E2 F1 F2 F3 F4 L64 q1 q2; have hn1 : n ≤ 1000000 := by omega)
    | (go_at_call 71; (with_reducible refine (same64_any x w3).mono ?_); rintro e w4 ⟨⟨g4, rfl, hg4, hp4⟩, hb4⟩; have S4 := Lib.hid (S3.out.push hb4 hg4 hp4); clear hg4 hp4 hb4)
    | (go_at_call 71; (with_reducible refine (same64_any y w4).mono ?_); rintro e w5 ⟨⟨g5, rfl, hg5, hp5⟩, hb5⟩; have S5 := Lib.hid (S4.out.push hb5 hg5 hp5); clear hg5 hp5 hb5; have k9 := (S5.out.pic 1 rfl).cell (i := 9) (by simp); have r9 := (S5.out.pic 1 rfl).free 9; have p9 := (S5.out.pic 1 rfl).set (i := 9) (by simp) ((x + 1) % 256); rw [HU.out.1] at p9; have S5a := Lib.hid (S5.out.upd 1 rfl (grown_set _ _ _) p9); have k54 := (S5a.out.pic 0 rfl).cell (i := 54) (by simp); have r54 := (S5a.out.pic 0 rfl).free 54; have p54 := (S5a.out.pic 0 rfl).set (i := 54) (by simp) ((y + 3) % 256); rw [HV.out.1] at p54; have S6 := Lib.hid (S5a.out.upd 0 rfl (grown_set _ _ _) p54); clear p9 p54; obtain ⟨c0, c1, c2⟩ := box_cells S6.out)
    | (go_at_call 65; (with_reducible refine (lay_n f g (1 + qa) (1 + b) g3 n X U [] (.slice (some ⟨g4, 0, none⟩) 64 64) _ (S6.out.pic 2 rfl) ((S6.out.pic 1 rfl).rdn HU.out.2 (by decide) (by decide)) (own_ne (S6.out.ne 1 2 rfl rfl (by decide))) n 64 HX.out.1 HU.out.2 (Nat.le_refl n) hn1 (by omega) (by omega)).mono ?_); rw [HE.out.1, HL.out.1]; rintro e w7 ⟨rfl, hp7, hg7⟩; have S7 := Lib.hid (S6.out.upd 2 rfl hg7 hp7); clear hp7 hg7 c0 c1 c2 k9 r9 k54 r54; obtain ⟨c0, c1, c2⟩ := box_cells S7.out)
    | (go_at_call 65; (with_reducible refine (lay_n f g (1 + qa) (1 + o) g3 n X1 V [] (.slice (some ⟨g5, 0, none⟩) 64 64) w7 (S7.out.pic 2 rfl) ((S7.out.pic 0 rfl).rdn HV.out.2 (by decide) (by decide)) (own_ne (S7.out.ne 0 2 rfl rfl (by decide))) n 64 HX.out.2.1 HV.out.2 (Nat.le_refl n) hn1 (by omega) (by omega)).mono ?_); rw [HE.out.2, HL.out.2.1]; rintro e w8 ⟨rfl, hp8, hg8⟩; have S8 := Lib.hid (S7.out.upd 2 rfl hg8 hp8); clear hp8 hg8 c0 c1 c2)
    | (go_at_call 64; refine (copyBytes_any (.slice (some ⟨g3, 0, none⟩) n n) X2 w8 ((S8.out.pic 2 rfl).rdn HX.out.2.2 hn1 (Nat.le_refl n)) (by rw [HX.out.2.2]; exact hn1)).mono ?_; rintro e w9 ⟨⟨r, rfl, hr⟩, hb9⟩; have RO := Rd.of_owns hr (by rw [HX.out.2.2]; omega); have hro : ∀ k, r.ownBlock = some k → w8.heap.size ≤ k := (fun k e => (hr.lt k e).1); have hrk : ∀ k, r.ownBlock = some k → k ≠ g3 := (fun k e h => by have := hro k e; have := (S8.out.pic 2 rfl).lt; omega); have HRK := Lib.hid hrk; obtain ⟨ra, rc, rfl⟩ := RO.form; rw [HX.out.2.2] at RO HRK ⊢; have HRO := Lib.hid RO; have S9 := Lib.hid (S8.out.below hb9); clear hr hro hrk RO hb9; obtain ⟨c0, c1, c2⟩ := box_cells S9.out)
    | (go_at_call 65; (with_reducible refine (lay_n f g (1 + qa) (1 + o) g3 n X2 V [] (.slice (some ⟨g5, 0, none⟩) 64 64) w9 (S9.out.pic 2 rfl) ((S9.out.pic 0 rfl).rdn HV.out.2 (by decide) (by decide)) (own_ne (S9.out.ne 0 2 rfl rfl (by decide))) n 64 HX.out.2.2 HV.out.2 (Nat.le_refl n) hn1 (by omega) (by omega)).mono ?_); rw [HE.out.2, HL.out.2.2]; rintro e w10 ⟨rfl, hp10, hg10⟩; have S10 := Lib.hid (S9.out.upd 2 rfl hg10 hp10); have HRA := Lib.hid (HRO.out.grown hg10 (fun k hk e => HRK.out k hk (by cases e; rfl))); clear hp10 hg10 c0 c1 c2; obtain ⟨c0, c1, c2⟩ := box_cells S10.out)
    | (go_at_call 25; (with_reducible refine (sameBytes_true _ _ X2 w10 HRA.out ((S10.out.pic 2 rfl).rdn HX.out.2.2 hn1 (Nat.le_refl n))).mono ?_); rintro e w' ⟨rfl, rfl⟩)
    | (go_at_call 23; (with_reducible refine (fetch_any f g (1 + qa) (1 + b) 0 0 (.slice (some ⟨g3, 0, none⟩) n n) X2 w10 ((S10.out.pic 2 rfl).rdn HX.out.2.2 hn1 (Nat.le_refl n)) (by omega) (by omega) (by decide) (by decide) (by decide) (by decide)).mono ?_); rw [HF.out.1, HF.out.2.2.2]; rintro e w11 ⟨⟨u, rfl, hu⟩, hb11⟩; obtain ⟨ua, uc, rfl, hru⟩ := rdL hu HQ.out.1; have HRL := Lib.hid hru; have S11 := Lib.hid (S10.out.below hb11); clear hu hru hb11 c0 c1 c2; obtain ⟨c0, c1, c2⟩ := box_cells S11.out)
    | (go_at_call 23; (with_reducible refine (fetch_any f g (1 + qa) (1 + o) 0 0 (.slice (some ⟨g3, 0, none⟩) n n) X2 w11 ((S11.out.pic 2 rfl).rdn HX.out.2.2 hn1 (Nat.le_refl n)) (by omega) (by omega) (by decide) (by decide) (by decide) (by decide)).mono ?_); rw [HF.out.2.1, HF.out.2.2.1]; rintro e w12 ⟨⟨u2, rfl, hu⟩, hb12⟩; obtain ⟨va, vc, rfl, hru⟩ := rdL hu HV.out.2; have HRM := Lib.hid hru; have HRL2 := Lib.hid (HRL.out.below hb12); have S12 := Lib.hid (S11.out.below hb12); clear hu hru hb12 c0 c1 c2)
    | (go_at_call 25; (with_reducible refine (sameBytes_true (.slice va 64 vc) (.slice (some ⟨g5, 0, none⟩) 64 64) V w12 HRM.out ((S12.out.pic 0 rfl).rdn HV.out.2 (by decide) (by decide))).mono ?_); rintro e w' ⟨rfl, rfl⟩)
    | (go_at_call 25; (with_reducible refine (sameBytes_true (.slice ua 64 uc) (.slice (some ⟨g4, 0, none⟩) 64 64) L w12 HRL2.out (by rw [HQ.out.2.2 (ne_of_beq_false (by assumption))]; exact (S12.out.pic 1 rfl).rdn HU.out.2 (by decide) (by decide))).mono ?_); rintro e w' ⟨rfl, rfl⟩)
    | (go_at_call 25; (with_reducible refine (sameBytes_true (.slice ua 64 uc) (.slice (some ⟨g5, 0, none⟩) 64 64) L w12 HRL2.out (by rw [HQ.out.2.1 (eq_of_beq (by assumption))]; exact (S12.out.pic 0 rfl).rdn HV.out.2 (by decide) (by decide))).mono ?_); rintro e w' ⟨rfl, rfl⟩))
  all_goals (go_ret; exact ⟨rfl, HB2.out.trans (S12.out.old.mono HB2.out.size)⟩)
end Go.Proofs.Ytcieggaihelacaa
/- Layer 14's statement MotionThere, plain: where a fetched sample stands. -/
set_option linter.unusedSimpArgs false
set_option linter.unusedVariables false
namespace Go.Proofs.Ytcieggaihelacaa
open Go.RowKit
set_option maxRecDepth 100000
theorem own_pic' {w w' : World} {r : Value} {xs : List Int} (h : w'.ownsRow w.heap.size 5 1 r xs.length (xs.map (Value.int .u8))) (hl : xs.length = 64) : ∃ g tl, r = .slice (some ⟨g, 0, none⟩) 64 (64 + tl.length) ∧ w.heap.size ≤ g ∧ Pic w' g xs tl := by
  rcases Pic.of_owns h with ⟨_, e⟩ | ⟨g, tl, h1, h2, h3, _⟩
  · rw [e] at hl; cases hl
  · exact ⟨g, tl, by rw [h1, hl], h2, h3⟩
theorem own_none {w w' : World} {r : Value} {xs : List Int} (h : w'.ownsRow w.heap.size 5 1 r xs.length (xs.map (Value.int .u8))) (hl : xs = []) : ∃ ua uc, r = .slice ua 0 uc := by
  have h1 := Rd.of_owns h (by rw [hl]; decide)
  obtain ⟨ua, uc, e⟩ := h1.form
  exact ⟨ua, uc, by rw [e, hl]; rfl⟩
theorem place_ok' (f g a b : Int) (w : World) (hf : f = 0 ∨ f = 1) (hg : g ∈ groupsS f) (ha : 1 ≤ a ∧ a ≤ 33) (hb : 1 ≤ b ∧ b ≤ 6) :
    Calls Try.prog 48 #[.int .i64 f, .int .i64 g, .int .i64 a, .int .i64 b] w fun e w' => e = .returned (.tuple #[.int .i64 (plcV f (cornerX f g a) (cornerY g a) b), .int .i64 (plcS f b), .int .i64 0]) ∧ Below w.heap.size w w' := by
  obtain ⟨e1, e2, e3⟩ := pl_val hf hg ha hb
  have h := place_any f g a b w (by omega) (by omega)
  rw [e1, e2, e3] at h
  exact h
theorem corner_ok' (f g a : Int) (w : World) (hf : f = 0 ∨ f = 1) (hg : g ∈ groupsS f) (ha : 1 ≤ a ∧ a ≤ 33) :
    Calls Try.prog 46 #[.int .i64 f, .int .i64 g, .int .i64 a] w fun e w' => e = .returned (.tuple #[.int .i64 (cornerX f g a), .int .i64 (cornerY g a), .int .i64 0]) ∧ Below w.heap.size w w' := by
  obtain ⟨e1, e2, e3⟩ := corn_val hf hg ha
  have h := Corner_any f g a w (by omega) (by omega)
  rw [e1, e2, e3] at h
  exact h
/-- Within its plane. -/
theorem there_plane {f g a b x y : Int} {k : Nat} (hf : f = 0 ∨ f = 1) (hg : g ∈ groupsS f) (ha : 1 ≤ a ∧ a ≤ 33) (hb : 1 ≤ b ∧ b ≤ 6) (hx : -15 ≤ x ∧ x ≤ 15) (hy : -15 ≤ y ∧ y ≤ 15) (hk : k < 64)
    (h1 : 0 ≤ cornerX f g a + x) (h2 : cornerX f g a + x + 16 ≤ wideS f) (h3 : 0 ≤ cornerY g a + y) (h4 : cornerY g a + y + 16 ≤ highS f) :
    (b ≤ 4 → fetI f g a b x y k < wideS f * highS f) ∧ (b = 5 → wideS f * highS f ≤ fetI f g a b x y k ∧ fetI f g a b x y k < wideS f * highS f + wideS f * highS f / 4) ∧ (b = 6 → wideS f * highS f + wideS f * highS f / 4 ≤ fetI f g a b x y k) := by
  have m16 : cornerX f g a % 16 = 0 ∧ cornerY g a % 16 = 0 := by
    unfold cornerX cornerY
    rcases hf with rfl | rfl <;> omega
  have tx := half_tdiv x
  have ty := half_tdiv y
  unfold fetI sxS plcV plcS
  generalize cornerX f g a = X at *
  generalize cornerY g a = Y at *
  generalize halfS x = hx' at *
  generalize halfS y = hy' at *
  clear hg ha
  have tx' : (X / 2 + hx' + 8 ≤ wideS f / 2 ∧ 0 ≤ X / 2 + hx') := by
    rcases hf with rfl | rfl
    · have w0 : wideS 0 = 176 := rfl
      rw [w0] at h2 ⊢
      split at tx <;> omega
    · have w0 : wideS 1 = 352 := rfl
      rw [w0] at h2 ⊢
      split at tx <;> omega
  have ty' : (Y / 2 + hy' + 8 ≤ highS f / 2 ∧ 0 ≤ Y / 2 + hy') := by
    rcases hf with rfl | rfl
    · have w0 : highS 0 = 144 := rfl
      rw [w0] at h4 ⊢
      split at ty <;> omega
    · have w0 : highS 1 = 288 := rfl
      rw [w0] at h4 ⊢
      split at ty <;> omega
  clear tx ty
  refine ⟨fun h => ?_, fun h => ?_, fun h => ?_⟩
  · simp only [if_pos h, if_neg (show ¬ 4 < b by omega)]
    have hb' : b = 1 ∨ b = 2 ∨ b = 3 ∨ b = 4 := by omega
    rcases hf with rfl | rfl
    · have w0 : wideS 0 = 176 := rfl
      have h0 : highS 0 = 144 := rfl
      rw [w0, h0]
      rw [w0] at h2 tx'
      rw [h0] at h4 ty'
      rcases hb' with rfl | rfl | rfl | rfl <;> omega
    · have w0 : wideS 1 = 352 := rfl
      have h0 : highS 1 = 288 := rfl
      rw [w0, h0]
      rw [w0] at h2 tx'
      rw [h0] at h4 ty'
      rcases hb' with rfl | rfl | rfl | rfl <;> omega
  · subst h
    simp only [if_neg (show ¬ (5 : Int) ≤ 4 by decide), if_pos (show (4 : Int) < 5 by decide)]
    rcases hf with rfl | rfl
    · have w0 : wideS 0 = 176 := rfl
      have h0 : highS 0 = 144 := rfl
      rw [w0, h0]
      rw [w0] at h2 tx'
      rw [h0] at h4 ty'
      omega
    · have w0 : wideS 1 = 352 := rfl
      have h0 : highS 1 = 288 := rfl
      rw [w0, h0]
      rw [w0] at h2 tx'
      rw [h0] at h4 ty'
      omega
  · subst h
    simp only [if_neg (show ¬ (6 : Int) ≤ 4 by decide), if_pos (show (4 : Int) < 6 by decide)]
    rcases hf with rfl | rfl
    · have w0 : wideS 0 = 176 := rfl
      have h0 : highS 0 = 144 := rfl
      rw [w0, h0]
      rw [w0] at h2 tx'
      rw [h0] at h4 ty'
      omega
    · have w0 : wideS 1 = 352 := rfl
      have h0 : highS 1 = 288 := rfl
      rw [w0, h0]
      rw [w0] at h2 tx'
      rw [h0] at h4 ty'
      omega
end Go.Proofs.Ytcieggaihelacaa
/- What a row's proof needs at its end, where old memory lies as it lay: the word about frozen bytes is asked of old blocks alone. -/
set_option linter.unusedSimpArgs false
set_option linter.unusedVariables false
namespace Go.Proofs.Ytcieggaihelacaa
open Go.ChangeShapes Go.WideShapes Go.ChangeAt Go.RowKit
theorem knob : ownKnob Try.prog.godebug = none := by kernel_rfl
theorem post_of_below {H : Type} {enc : TypeId × Value → H} {P : Program} {f : Func} {s : ChangeSpec} {apart fresh handsOn again : Bool} {W W' : World} {args : Array Value} {v : Value} {ds gs : List (DataW H)} {before pa pv : List MemPlace}
    (hW : DataW.Whole enc P f.params.toList s.vars apart W args.toList ds gs before)
    (hres : ∀ (b : Nat) (sp : Nat → Bool) (hd : Bool), DataW.TrodAll enc P W' b sp hd f.resultTypes.toList (v.resultList f.resultTypes.size) (s.fn H (ds ++ gs)).results [])
    (hargs : ∀ sp : Nat → Bool, (∀ p ∈ before, sp p.block = true) → DataW.TrodAll enc P W' 0 sp true f.params.toList args.toList (s.fn H (ds ++ gs)).args pa)
    (hvars : ∀ sp : Nat → Bool, (∀ p ∈ before, sp p.block = true) → DataW.TrodVars enc P W' sp s.vars (s.fn H (ds ++ gs)).vars pv)
    (hps : before = pa ++ pv) (hb : Below W.heap.size W W')
    (hok : ∀ (j : Nat) (t : TypeId) (r : Value), f.resultTypes[j]? = some t → (v.resultList f.resultTypes.size)[j]? = some r → Value.okWide P W' .any 0 t r) :
    s.post enc P f apart fresh handsOn again W args v W' := by
  have hold : ∀ p ∈ before, (fun b => decide (b < W.heap.size)) p.block = true := fun p hp => by simpa using hW.lt p hp
  have hlt := hW.lt
  refine ⟨ds, gs, before, [], pa, pv, hW, hres _ _ _, hargs _ hold, hvars _ hold, World.keptBut_mono (fun p hp => ⟨hp, ?_⟩) (hb.frame _), fun _ => ?_⟩
  · rw [hps, List.mem_append] at hp
    exact Or.inr hp
  · obtain ⟨_, _, _, _, _, hz, hn⟩ := hW
    refine ⟨hok, _, _, ([] ++ pa) ++ pv, ⟨[] ++ pa, pv, trodAll_append (hargs _ (fun _ _ => rfl)) (hres _ _ _), hvars _ (fun _ _ => rfl), rfl, ?_, ?_⟩, ?_⟩
    · intro b off hp
      have hm : MemPlace.cell b off ∈ before := by rw [hps]; simpa using hp
      rw [hb.frozen (hlt _ hm)]
      exact hz b off hm
    · intro ha
      have := hn ha
      rw [hps] at this
      simpa using this
    · intro p hp _
      rw [hps]
      simpa using hp
theorem i64_wf {x : Int} (h : (Lit.int .i64 x).wf = true) : -9223372036854775808 ≤ x ∧ x ≤ 9223372036854775807 := by
  simp [Lit.wf, IntKind.min, IntKind.max, IntKind.signed, IntKind.bits] at h
  omega
end Go.Proofs.Ytcieggaihelacaa
