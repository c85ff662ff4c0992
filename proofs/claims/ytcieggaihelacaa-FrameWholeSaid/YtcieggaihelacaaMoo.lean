/- Layer 14's statements' own helpers: the chapter's picture, its first row, some of its examples. -/
import Derived.Test.YtcieggaihelacaaMok
import Derived.Test.YtcieggaihelacaaMon
set_option linter.unusedSimpArgs false
set_option linter.unusedVariables false
namespace Go.Proofs.Ytcieggaihelacaa
open Go.RowKit
def chapL : List Int := (List.range 38016).map (fun i : Nat => if i < 25344 then ((i % 176 : Nat) : Int) else (((i - 25344) % 6336 / 88 : Nat) : Int))
theorem chapL_len : chapL.length = 38016 := by unfold chapL; rw [List.length_map, List.length_range]
theorem chapL_at {i : Nat} (h : i < 38016) : chapL[i]? = some (if i < 25344 then ((i % 176 : Nat) : Int) else (((i - 25344) % 6336 / 88 : Nat) : Int)) := by
  unfold chapL; rw [List.getElem?_map, List.getElem?_range h]; rfl
theorem chap_step {n : Nat} {e : Int} (h : n < 38016) (he : (if n < 25344 then ((n % 176 : Nat) : Int) else (((n - 25344) % 6336 / 88 : Nat) : Int)) = e) : chapL.take (n + 1) = chapL.take n ++ [e] := by
  rw [List.take_add_one, chapL_at h, he]; rfl
theorem qcif14_any (g a : Int) (w : World) :
    Calls Try.prog 34 #[.int .i64 g, .int .i64 a] w fun e w' => e = .returned (.agg #[.int .i64 0, .int .i64 g, .int .i64 a]) ∧ Below w.heap.size w w' := by
  go_enter Try.func34, Try.ntmps34
  go_wp2
  exact bodyPost_ret (v := .agg #[.int .i64 0, .int .i64 g, .int .i64 a]) (by simp [results, Try.results34, go_sem]) rfl ⟨rfl, (Below.refl w.heap.size w).alloc (Nat.le_refl _) _⟩
theorem u8_id {n : Int} (h : 0 ≤ n) (g : n ≤ 255) : IntKind.u8.wrap n = n := by
  have e : IntKind.u8.wrap n = n % 256 := by simp [IntKind.wrap, IntKind.signed, IntKind.bits]
  omega
set_option maxRecDepth 100000 in
set_option maxHeartbeats 2000000 in
theorem chapter_any (w : World) :
    Calls Try.prog 33 #[] w fun e w' => (∃ r, e = .returned r ∧ w'.ownsRow w.heap.size 5 1 r 38016 (chapL.map (Value.int .u8))) ∧ Below w.heap.size w w' := by
  have hl := chapL_len
  obtain ⟨L, hL⟩ : ∃ L, chapL = L := ⟨_, rfl⟩
  have HL := Lib.hid hl
  have HCL := Lib.hid hL
  have hst : ∀ (n : Nat) (e : Int), n < 38016 → (if n < 25344 then ((n % 176 : Nat) : Int) else (((n - 25344) % 6336 / 88 : Nat) : Int)) = e → (L.take (n + 1)).map (Value.int .u8) = (L.take n).map (Value.int .u8) ++ [.int .u8 e] := by
    intro n e h he
    rw [← hL, chap_step h he, List.map_append]; rfl
  have HST := Lib.hid hst
  have hfin : L.take 38016 = L := by rw [← hL]; exact List.take_of_length_le (by omega)
  have HF := Lib.hid hfin
  rw [hL]
  clear hl hL hst hfin
  go_enter Try.func33, Try.ntmps33
  go_wp2
  go_loopw [1, 2, 3] (fun v i _ wr => ∃ y : Nat, y ≤ 144 ∧ i = .int .i64 y ∧ wr.ownsRow w.heap.size 5 1 v (176 * y) ((L.take (176 * y)).map (Value.int .u8)) ∧ Below w.heap.size w wr) (fun _ i _ _ => 200 - (intOf i).toNat)
  case atStart => exact ⟨0, by omega, rfl, World.ownsRow_nil _ _ _ _, Below.refl _ _⟩
  case round =>
    obtain ⟨y, hy, rfl, hown, hb⟩ := hrel
    by_cases hlt : y < 144
    · have hlt' : (y : Int) < 144 := by omega
      go_wp2
      go_loopw [1, 3] (fun v i wr => ∃ x : Nat, x ≤ 176 ∧ i = .int .i64 x ∧ wr.ownsRow w.heap.size 5 1 v (176 * y + x) ((L.take (176 * y + x)).map (Value.int .u8)) ∧ Below w.heap.size w wr) (fun _ i _ => 200 - (intOf i).toNat)
      case atStart => exact ⟨0, by omega, rfl, hown, hb⟩
      case round =>
        obtain ⟨x, hx, rfl, hown2, hb2⟩ := hrel
        by_cases hlt2 : x < 176
        · have hlt2' : (x : Int) < 176 := by omega
          have hs := HST.out (176 * y + x) (x : Int) (by omega) (by rw [if_pos (by omega)]; omega)
          have HS := Lib.hid hs
          have HBE := Lib.hid hb2
          have hsz := hb2.size
          clear hs hb2 hown hb
          go_wp2_with (at_builtin; refine wp_app1 Try.elByte rfl rfl (hown2.alloc _) (cell_alloc1 _ _ _) rfl (by omega) (by simp; omega) ?_; intro g1 c1 w1 hown3 hgrow3 _)
          go_roundw
          case rel =>
            refine ⟨x + 1, by omega, by go_num, ?_, ?_⟩
            · rw [← Nat.add_assoc, HS.out]
              exact hown3
            · exact (HBE.out.alloc HBE.out.size _).grown hgrow3 (by simp; omega) (fun j e => (hown2.lt j e).1)
          case measure => simp [intOf]; omega
        · have e : x = 176 := by omega
          subst e
          go_wp2
          go_roundw
          case rel => exact ⟨y + 1, by omega, by go_num, hown2, hb2⟩
          case measure => simp [intOf]; omega
    · have e : y = 144 := by omega
      subst e
      go_wp2
      rw [show ((144 : Nat) : Int) = 144 from rfl]
      go_loopw [1, 4, 5, 6] (fun v i _ _ wr => ∃ c : Nat, c ≤ 2 ∧ i = .int .i64 c ∧ wr.ownsRow w.heap.size 5 1 v (25344 + 6336 * c) ((L.take (25344 + 6336 * c)).map (Value.int .u8)) ∧ Below w.heap.size w wr) (fun _ i _ _ _ => 200 - (intOf i).toNat)
      case atStart => exact ⟨0, by omega, rfl, hown, hb⟩
      case round =>
        obtain ⟨c, hc, rfl, hown1, hb1⟩ := hrel
        clear hown hb
        by_cases hltc : c < 2
        · have hltc' : (c : Int) < 2 := by omega
          go_wp2
          go_loopw [1, 5, 6] (fun v i _ wr => ∃ y : Nat, y ≤ 72 ∧ i = .int .i64 y ∧ wr.ownsRow w.heap.size 5 1 v (25344 + 6336 * c + 88 * y) ((L.take (25344 + 6336 * c + 88 * y)).map (Value.int .u8)) ∧ Below w.heap.size w wr) (fun _ i _ _ => 200 - (intOf i).toNat)
          case atStart => exact ⟨0, by omega, rfl, hown1, hb1⟩
          case round =>
            obtain ⟨y, hy, rfl, hown4, hb4⟩ := hrel
            clear hown1 hb1
            by_cases hlty : y < 72
            · have hlty' : (y : Int) < 72 := by omega
              go_wp2
              go_loopw [1, 6] (fun v i wr => ∃ x : Nat, x ≤ 88 ∧ i = .int .i64 x ∧ wr.ownsRow w.heap.size 5 1 v (25344 + 6336 * c + 88 * y + x) ((L.take (25344 + 6336 * c + 88 * y + x)).map (Value.int .u8)) ∧ Below w.heap.size w wr) (fun _ i _ => 200 - (intOf i).toNat)
              case atStart => exact ⟨0, by omega, rfl, hown4, hb4⟩
              case round =>
                obtain ⟨x, hx, rfl, hown2, hb2⟩ := hrel
                clear hown4 hb4
                by_cases hlt2 : x < 88
                · have hlt2' : (x : Int) < 88 := by omega
                  have hs := HST.out (25344 + 6336 * c + 88 * y + x) (y : Int) (by omega) (by rw [if_neg (by omega)]; omega)
                  have HS := Lib.hid hs
                  have HBE := Lib.hid hb2
                  have hsz := hb2.size
                  clear hs hb2
                  go_wp2_with (at_builtin; refine wp_app1 Try.elByte rfl rfl (hown2.alloc _) (cell_alloc1 _ _ _) rfl (by omega) (by simp; omega) ?_; intro g1 c1 w1 hown3 hgrow3 _)
                  go_roundw
                  case rel =>
                    refine ⟨x + 1, by omega, by go_num, ?_, ?_⟩
                    · rw [← Nat.add_assoc, HS.out]
                      exact hown3
                    · exact (HBE.out.alloc HBE.out.size _).grown hgrow3 (by simp; omega) (fun j e => (hown2.lt j e).1)
                  case measure => simp [intOf]; omega
                · have e : x = 88 := by omega
                  subst e
                  go_wp2
                  go_roundw
                  case rel => exact ⟨y + 1, by omega, by go_num, hown2, hb2⟩
                  case measure => simp [intOf]; omega
            · have e : y = 72 := by omega
              subst e
              go_wp2
              go_roundw
              case rel => exact ⟨c + 1, by omega, by go_num, hown4, hb4⟩
              case measure => simp [intOf]; omega
        · have e : c = 2 := by omega
          subst e
          go_wp2
          go_ret
          exact ⟨⟨_, rfl, by rw [show 25344 + 6336 * 2 = 38016 from rfl, HF.out] at hown1; exact hown1⟩, hb1⟩
end Go.Proofs.Ytcieggaihelacaa
