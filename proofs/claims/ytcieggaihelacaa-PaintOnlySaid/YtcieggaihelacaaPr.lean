/- Layer 16's statements: PaintKnown, walked. -/
import Derived.Test.YtcieggaihelacaaPp
set_option linter.unusedSimpArgs false
set_option linter.unusedVariables false
namespace Go.Proofs.Ytcieggaihelacaa
open Go.RowKit
set_option maxRecDepth 100000
theorem below_new (w : World) (o : Obj) : Below w.heap.size w (w.alloc o) := (Below.refl w.heap.size w).alloc (Nat.le_refl _) o
def G0 : List Int := List.replicate 38016 128
abbrev S7 : List Int := List.replicate 64 7
theorem layQ_first (i : Nat) : layQ 0 1 1 1 i = i / 8 * 176 + i % 8 := by
  unfold layQ
  rw [fetI_0]
  have e1 : plcV 0 (cornerX 0 1 1) (cornerY 1 1) 1 = 0 := by decide
  have e2 : plcS 0 1 = 176 := by decide
  rw [e1, e2]
  omega
theorem layE_first : layE 0 1 1 38016 64 1 = 0 := by decide
theorem G0_len : G0.length = 38016 := by unfold G0; rw [List.length_replicate]
theorem layL_first : layL 0 1 1 1 G0 S7 = put (layQ 0 1 1 1) (fun i => S7[i]?.getD 0) 64 G0 := by
  unfold layL
  rw [G0_len, if_pos (by exact layE_first)]
theorem hit_first (i : Nat) (hi : i < 64) : (layL 0 1 1 1 G0 S7)[i / 8 * 176 + i % 8]?.getD 0 = 7 := by
  rw [layL_first, ← layQ_first, put_hit hi (fun j h1 h2 e => by rw [layQ_first, layQ_first] at e; omega) (by rw [layQ_first, G0_len]; omega)]
  unfold S7
  rw [Option.getD_some, List.getElem?_replicate, if_pos hi, Option.getD_some]
theorem miss_first (m : Nat) (hm : m < 38016) (h : ∀ i, i < 64 → i / 8 * 176 + i % 8 ≠ m) : (layL 0 1 1 1 G0 S7)[m]?.getD 0 = 128 := by
  rw [layL_first, put_miss (fun i hi => by rw [layQ_first]; exact h i hi)]
  unfold G0
  rw [List.getElem?_replicate, if_pos hm, Option.getD_some]
theorem rd_12 (w : World) : Rd .u8 (w.alloc (.cells #[.int .u8 1, .int .u8 2] 5)) (.slice (some ⟨w.heap.size, 0, none⟩) 2 2) [1, 2] := Rd.lit .u8 5 [1, 2] w (by decide)
theorem rd_12i (w : World) : Rd .i64 (w.alloc (.cells #[.int .i64 1, .int .i64 2] 3)) (.slice (some ⟨w.heap.size, 0, none⟩) 2 2) [1, 2] := Rd.lit .i64 3 [1, 2] w (by decide)
theorem rd_12j (w : World) (o : Obj) : Rd .i64 ((w.alloc o).alloc (.cells #[.int .i64 1, .int .i64 2] 3)) (.slice (some ⟨w.heap.size + 1, 0, none⟩) 2 2) [1, 2] := by
  have h := rd_12i (w.alloc o)
  rw [show (w.alloc o).heap.size = w.heap.size + 1 by simp] at h
  exact h
theorem rd_123' (w : World) : Rd .u8 (w.alloc (.cells #[.int .u8 1, .int .u8 2, .int .u8 3] 5)) (.slice (some ⟨w.heap.size, 0, none⟩) 3 3) [1, 2, 3] := Rd.lit .u8 5 [1, 2, 3] w (by decide)
theorem pic_64 {w : World} {g : Nat} {x : Int} (h : Pic w g (List.replicate 64 x) []) : Rd .u8 w (.slice (some ⟨g, 0, none⟩) 64 64) (List.replicate 64 x) := h.rdn (by simp) (by decide) (by decide)
theorem picI_64 {w : World} {g : Nat} {x : Int} (h : PicI w g (List.replicate 64 x)) : Rd .i64 w (.slice (some ⟨g, 0, none⟩) 64 64) (List.replicate 64 x) := by
  have h2 := h.rd (by simp); rw [List.length_replicate] at h2; exact h2
/-- What the walk reads of the picture. -/
theorem known_cells {w : World} {g : Nat} {tl : List Value} (h : Pic w g (layL 0 1 1 1 G0 S7) tl) : w.cell? ⟨g, 0, none⟩ = some (.int .u8 7) ∧ w.cell? ⟨g, 7, none⟩ = some (.int .u8 7) ∧ w.cell? ⟨g, 8, none⟩ = some (.int .u8 128) ∧ w.cell? ⟨g, 176, none⟩ = some (.int .u8 7) ∧ w.cell? ⟨g, 175, none⟩ = some (.int .u8 128) := by
  have hl : (layL 0 1 1 1 G0 S7).length = 38016 := by rw [layL_len, G0_len]
  refine ⟨?_, ?_, ?_, ?_, ?_⟩
  · rw [h.cell (by omega)]; have := hit_first 0 (by decide); rw [show 0 / 8 * 176 + 0 % 8 = 0 by decide] at this; rw [this]
  · rw [h.cell (by omega)]; have := hit_first 7 (by decide); rw [show 7 / 8 * 176 + 7 % 8 = 7 by decide] at this; rw [this]
  · rw [h.cell (by omega), miss_first 8 (by decide) (fun i hi => by omega)]
  · rw [h.cell (by omega)]; have := hit_first 8 (by decide); rw [show 8 / 8 * 176 + 8 % 8 = 176 by decide] at this; rw [this]
  · rw [h.cell (by omega), miss_first 175 (by decide) (fun i hi => by omega)]
theorem GreyV.one {w w' : World} {r : Value} (h : GreyV 0 w w' r) : ∃ g tl, r = .slice (some ⟨g, 0, none⟩) 38016 38016 ∧ w.heap.size ≤ g ∧ Pic w' g G0 tl := by
  rcases h with ⟨h, _⟩ | ⟨g, n, tl, h, rfl, hn, hl, hg, hp⟩
  · exact absurd (by decide) h
  · have hb : bytesS 0 = 38016 := by decide
    have : n = 38016 := by omega
    subst this
    exact ⟨g, tl, rfl, hg, hp⟩
theorem GreyV.none {w w' : World} {r : Value} (h : GreyV 2 w w' r) : r = .slice none 0 0 := by
  rcases h with ⟨_, h⟩ | ⟨g, n, tl, h, _⟩
  · exact h
  · exact absurd h (by decide)
theorem known_adds : addE ([1, 2] : List Int).length [1, 2] = 2 ∧ addE (List.replicate 64 (3 : Int)).length (List.replicate 64 2097152) = 3 ∧ addE 64 (List.replicate 64 (77 : Int)) = 0 ∧ addL zero64 (List.replicate 64 77) = List.replicate 64 77 := by
  refine ⟨by decide, by decide, by decide, ?_⟩
  have h := (add_rep (x := 0) (y := 77) (by decide)).2
  exact h
theorem known_bads : layE 0 1 1 38016 64 7 = 3 ∧ layE 0 1 1 3 64 1 = 2 ∧ cpE 0 1 1 38016 3 = 2 := by decide
theorem copy_three (g1 : Nat) (u : Value) (w : World) (h : Rd .u8 w u [1, 2, 3]) :
    Calls Try.prog 56 #[.slice (some ⟨g1, 0, none⟩) 38016 38016, u, .agg #[.int .i64 0, .int .i64 1, .int .i64 1]] w fun e w' => e = .returned (.int .i64 2) ∧ Below w.heap.size w w' := by
  have hb : cpE 0 1 1 38016 ([1, 2, 3] : List Int).length = 2 := by decide
  have h := copy_bad 0 1 1 (some ⟨g1, 0, none⟩) 38016 38016 u [1, 2, 3] w h (by decide) (by decide) (by decide) (by rw [hb]; decide)
  rw [hb] at h
  exact h
set_option maxHeartbeats 8000000 in
theorem paintKnown_any (w : World) : Calls Try.prog 18 #[] w fun e w' => e = .returned (.bool true) ∧ Below w.heap.size w w' := by
  have HS := Lib.hid (St.nil w)
  have HA := Lib.hid known_adds
  have HBD := Lib.hid known_bads
  have HE := Lib.hid layE_first
  have H12 : Hid (byt [1, 2]) := Lib.hid (fun x hx => by simp at hx; omega)
  go_enter Try.func18, Try.ntmps18
  go_wp2_with (first
    | (go_at_call 68; (with_reducible refine (grey_any 0 _).mono ?_); rintro e w1 ⟨⟨r, rfl, hr⟩, hb'⟩; obtain ⟨g1, tl, rfl, hg1, hp1⟩ := hr.one; replace HS := Lib.hid (HS.out.push hb' hg1 hp1); have c1 := hp1.cell (i := 38015) (by rw [G0_len]; decide); rw [show G0[38015]?.getD 0 = 128 by unfold G0; rw [List.getElem?_replicate, if_pos (by decide), Option.getD_some]] at c1; clear hb' hg1 hp1 hr)
    | (go_at_call 68; (with_reducible refine (grey_any 2 _).mono ?_); rintro e w1 ⟨⟨r, rfl, hr⟩, hb'⟩; obtain rfl := hr.none; replace HS := Lib.hid (HS.out.below hb'); clear hb' hr)
    | (go_at_call 70; refine (qcif16_any _ _ _).mono ?_; rintro e w1 ⟨rfl, hb'⟩; replace HS := Lib.hid (HS.out.below hb'); (first | (replace RC := Lib.hid (RC.out.below hb')) | skip); clear hb')
    | (go_at_call 71; refine (same64_any _ _).mono ?_; rintro e w1 ⟨⟨gA, rfl, hgA, hpA⟩, hb'⟩; have NE := Lib.hid (own_ne (m := 64) (c := 64) (Nat.ne_of_gt (Nat.lt_of_lt_of_le (HS.out.pic 0 rfl).lt hgA))); have RA := Lib.hid (pic_64 hpA); replace HS := Lib.hid (HS.out.below hb'); (first | (replace RC := Lib.hid (RC.out.below hb')) | skip); (first | (replace RF := Lib.hid (RF.out.below hb')) | skip); clear hb' hgA hpA)
    | (go_at_call 72; refine (ints64_any _ _).mono ?_; rintro e w1 ⟨⟨gI, rfl, hgI, hpI⟩, hb'⟩; have RI := Lib.hid (picI_64 hpI); replace HS := Lib.hid (HS.out.below hb'); (first | (replace RA := Lib.hid (RA.out.below hb')) | skip); clear hb' hgI hpI)
    | (go_at_call 58; (with_reducible refine (add_any _ _ [1, 2] [1, 2] _ ((rd_12 _).alloc _) H12.out (rd_12j _ _)).mono ?_); rw [HA.out.1]; rintro e w1 ⟨⟨r1, rfl, hr1⟩, hb'⟩; replace HS := Lib.hid (((HS.out.below (below_new _ _)).below (below_new _ _)).below hb'); clear hb' hr1)
    | (go_at_call 58; (with_reducible refine (add_any _ _ (List.replicate 64 3) (List.replicate 64 2097152) _ RA.out (rep_byt (by decide) 64) RI.out).mono ?_); rw [HA.out.2.1]; rintro e w1 ⟨⟨r2, rfl, hr2⟩, hb'⟩; replace HS := Lib.hid (HS.out.below hb'); clear hb' hr2)
    | (go_at_call 60; (with_reducible refine (flat_any _ (List.replicate 64 77) _ RI.out).mono ?_); rw [HA.out.2.2.1, HA.out.2.2.2]; rintro e w1 ⟨⟨r3, rfl, hr3⟩, hb'⟩; replace HS := Lib.hid (HS.out.below hb'); have RF := Lib.hid (Rd.of_owns hr3 (by rw [List.length_replicate]; decide)); obtain ⟨k1, k2, k3, k4, k5⟩ := known_cells (HS.out.pic 0 rfl); clear hb' hr3)
    | (go_at_call 55; refine (awake16_any _).mono ?_; rintro e w1 ⟨rfl, hb'⟩; have RC := Lib.hid ((rd_123' _).below hb'); replace RF := Lib.hid ((RF.out.below (below_new _ _)).below hb'); replace HS := Lib.hid ((HS.out.below (below_new _ _)).below hb'); clear hb')
    | (go_at_call 25; refine (sameBytes_true _ _ (List.replicate 64 77) _ RF.out RA.out).mono ?_; rintro e w' ⟨rfl, rfl⟩)
    | (go_at_call 65; (with_reducible refine (lay_bad 0 1 1 7 g1 38016 38016 _ (List.replicate 64 7) _ RA.out (by decide) (by decide) (by decide) (by rw [List.length_replicate, HBD.out.1]; decide)).mono ?_); rw [List.length_replicate, HBD.out.1]; rintro e w1 ⟨rfl, hb'⟩; replace HS := Lib.hid (HS.out.below hb'); replace RC := Lib.hid (RC.out.below hb'); clear hb')
    | (go_at_call 65; (with_reducible refine (lay_bad 0 1 1 1 _ 3 3 _ (List.replicate 64 7) _ RA.out (by decide) (by decide) (by decide) (by rw [List.length_replicate, HBD.out.2.1]; decide)).mono ?_); rw [List.length_replicate, HBD.out.2.1]; rintro e w1 ⟨rfl, hb'⟩; replace HS := Lib.hid (HS.out.below hb'); replace RC := Lib.hid (RC.out.below hb'); clear hb')
    | (go_at_call 65; (with_reducible refine (lay_n 0 1 1 1 g1 38016 G0 S7 tl _ _ (HS.out.pic 0 rfl) RA.out NE.out 38016 64 G0_len (by unfold S7; rw [List.length_replicate]) (by decide) (by decide) (by decide) (by decide)).mono ?_); rw [HE.out]; rintro e w1 ⟨rfl, hpL, hgL⟩; replace HS := Lib.hid (HS.out.upd 0 rfl hgL hpL); clear hpL hgL)
    | (go_at_call 56; refine (copy_three _ _ _ RC.out).mono ?_; rintro e w1 ⟨rfl, hb'⟩; replace HS := Lib.hid (HS.out.below hb'); clear hb'))
  go_ret
  exact ⟨rfl, HS.out.old⟩
end Go.Proofs.Ytcieggaihelacaa
