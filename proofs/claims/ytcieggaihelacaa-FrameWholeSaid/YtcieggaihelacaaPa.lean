/- The paint layer's plain functions, and the document's beside them: Clip, Add, Flat. The samples are bytes. -/
import Derived.Test.YtcieggaihelacaaMon
import Derived.Lib.MinMax
set_option linter.unusedSimpArgs false
set_option linter.unusedVariables false
namespace Go.Proofs.Ytcieggaihelacaa
open Go.RowKit
set_option maxRecDepth 100000
def clipS (n : Int) : Int := max 0 (min n 255)
theorem clipS_bd (n : Int) : 0 ≤ clipS n ∧ clipS n ≤ 255 := by unfold clipS; omega
theorem clip_any (n : Int) (w : World) :
    Calls Try.prog 62 #[.int .i64 n] w fun e w' => e = .returned (.int .u8 (clipS n)) ∧ w = w' := by
  have hb := clipS_bd n
  obtain ⟨c, hc⟩ : ∃ c, clipS n = c := ⟨_, rfl⟩
  have hm : max 0 (min n 255) = c := hc
  rw [hc] at hb ⊢
  clear hc
  go_enter Try.func62, Try.ntmps62
  go_wp2
  go_ret
  exact ⟨rfl, rfl⟩
theorem rclip_any (n : Int) (w : World) :
    Calls Try.prog 63 #[.int .i64 n] w fun e w' => e = .returned (.int .u8 (clipS n)) ∧ w = w' := by
  have hb := clipS_bd n
  obtain ⟨c, hc⟩ : ∃ c, clipS n = c := ⟨_, rfl⟩
  have hm : min (max n 0) 255 = c := by rw [← hc]; unfold clipS; omega
  rw [hc] at hb ⊢
  clear hc
  go_enter Try.func63, Try.ntmps63
  go_wp2
  go_ret
  exact ⟨rfl, rfl⟩
theorem add1_any (x n : Int) (w : World) (hx : 0 ≤ x ∧ x ≤ 255) (hn : -1048576 ≤ n ∧ n ≤ 1048576) :
    Calls Try.prog 92 #[.int .u8 x, .int .i64 n] w fun e w' => e = .returned (.int .u8 (clipS (x + n))) ∧ w = w' := by
  go_enter Try.func92, Try.ntmps92
  go_wp2_with (go_at_call 62; refine (clip_any _ _).mono ?_; rintro e w' ⟨rfl, rfl⟩)
  go_ret
  exact ⟨rfl, rfl⟩
def small (ys : List Int) : Prop := ∀ y ∈ ys, -1048576 ≤ y ∧ y ≤ 1048576
instance (ys : List Int) : Decidable (small ys) := by unfold small; infer_instance
def addE (n : Nat) (ys : List Int) : Int := if n = 64 ∧ ys.length = 64 then (if small ys then 0 else 3) else 2
def addZ (xs ys : List Int) : List Int := xs.zipWith (fun x y => clipS (x + y)) ys
def addL (xs ys : List Int) : List Int := if addE xs.length ys = 0 then addZ xs ys else []
theorem add_cases (xs ys : List Int) :
    (¬ (xs.length = 64 ∧ ys.length = 64) ∧ addE xs.length ys = 2 ∧ addL xs ys = []) ∨
    ((xs.length = 64 ∧ ys.length = 64) ∧ ¬ small ys ∧ addE xs.length ys = 3 ∧ addL xs ys = []) ∨
    ((xs.length = 64 ∧ ys.length = 64) ∧ small ys ∧ addE xs.length ys = 0 ∧ addL xs ys = addZ xs ys) := by
  unfold addL
  by_cases h1 : xs.length = 64 ∧ ys.length = 64
  · by_cases h2 : small ys
    · have e : addE xs.length ys = 0 := by unfold addE; rw [if_pos h1, if_pos h2]
      exact .inr (.inr ⟨h1, h2, e, by rw [if_pos e]⟩)
    · have e : addE xs.length ys = 3 := by unfold addE; rw [if_pos h1, if_neg h2]
      exact .inr (.inl ⟨h1, h2, e, by rw [e]; rfl⟩)
  · have e : addE xs.length ys = 2 := by unfold addE; rw [if_neg h1]
    exact .inl ⟨h1, e, by rw [e]; rfl⟩
theorem addZ_len {xs ys : List Int} (h : xs.length = ys.length) : (addZ xs ys).length = xs.length := by unfold addZ; rw [List.length_zipWith]; omega
theorem addZ_step {xs ys : List Int} (h : xs.length = ys.length) (k : Nat) (hk : k < xs.length) : (addZ xs ys).take (k + 1) = (addZ xs ys).take k ++ [clipS (xs[k]?.getD 0 + ys[k]?.getD 0)] := by
  rw [List.take_add_one]
  unfold addZ
  rw [List.getElem?_zipWith, List.getElem?_eq_getElem hk, List.getElem?_eq_getElem (by omega)]
  rfl
theorem small.at {ys : List Int} (h : small ys) {k : Nat} (hk : k < ys.length) : -1048576 ≤ ys[k]?.getD 0 ∧ ys[k]?.getD 0 ≤ 1048576 := by
  rw [List.getElem?_eq_getElem hk]; exact h _ (List.getElem_mem hk)
theorem zip_any (v u : Value) (xs ys : List Int) (w : World) (h : Rd .u8 w v xs) (hb : byt xs) (g : Rd .i64 w u ys) (hlen : xs.length = ys.length) (hs : small ys) (h0 : 0 < xs.length) (hl : xs.length ≤ 1000) :
    Calls Try.prog 91 #[v, u, .func (.func 92) #[] #[]] w fun e w' => (∃ r, e = .returned r ∧ w'.ownsRow w.heap.size 5 1 r xs.length ((addZ xs ys).map (Value.int .u8))) ∧ Below w.heap.size w w' := by
  obtain ⟨xb, xo, xc, rfl, hxb, hxc, hxh⟩ := h.solid h0
  obtain ⟨yb, yo, yc, rfl, hyb, hyc, hyh⟩ := g.solid (by omega)
  have hst := addZ_step hlen
  have hZl := addZ_len hlen
  obtain ⟨Z, hZ⟩ : ∃ Z, addZ xs ys = Z := ⟨_, rfl⟩
  simp only [hZ] at hst hZl ⊢
  have HST := Lib.hid hst
  have HZL := Lib.hid hZl
  have HBY := Lib.hid hb
  have HSM := Lib.hid hs
  have HX := Lib.hid hxh
  have HY := Lib.hid hyh
  obtain ⟨n, hn⟩ : ∃ n, xs.length = n := ⟨_, rfl⟩
  have hn2 : ys.length = n := by omega
  have HN := Lib.hid hn
  have HN2 := Lib.hid hn2
  rw [hn] at hxc h0 hl ⊢
  rw [hn2] at hyc ⊢
  clear hst hZ hZl hb hs hxh hyh hlen hn hn2 h g
  go_enter Try.func91, Try.ntmps91
  go_wp2
  go_loopw [7, 8, 9, 12] (fun v _ _ i wr => ∃ k : Nat, k ≤ n ∧ i = .int .i64 k ∧ wr.ownsRow w.heap.size 5 1 v k ((Z.take k).map (Value.int .u8)) ∧ Below w.heap.size w wr) (fun _ _ _ i _ => n - (intOf i).toNat)
  case atStart => exact ⟨0, by omega, rfl, World.ownsRow_nil _ _ _ _, Below.refl _ _⟩
  case round =>
    obtain ⟨k, hk, rfl, hown, hbel⟩ := hrel
    by_cases hlt : k < n
    · have hs := HST.out k (by rw [HN.out]; exact hlt)
      have hx := HX.out k (by rw [HN.out]; exact hlt)
      have hy := HY.out k (by rw [HN2.out]; exact hlt)
      have bx := HBY.out.at k
      have by' := HSM.out.at (k := k) (by rw [HN2.out]; exact hlt)
      generalize xs[k]?.getD 0 = x at hs hx bx
      generalize ys[k]?.getD 0 = y at hs hy by'
      have hx := (hbel.cell (p := ⟨xb, xo + k, none⟩) hxb).trans hx
      have hy := (hbel.cell (p := ⟨yb, yo + k, none⟩) hyb).trans hy
      have hsz := hbel.size
      have HS := Lib.hid hs
      have HBE := Lib.hid hbel
      clear hs hbel
      go_wp2_with (first
        | (go_at_call 92; refine (add1_any x y _ bx by').mono ?_; rintro e w' ⟨rfl, rfl⟩)
        | (at_builtin; refine wp_app1 Try.elByte rfl rfl (hown.alloc _) (cell_alloc1 _ _ _) rfl (by omega) (by simp; omega) ?_; intro g1 c1 w1 hown3 hgrow3 _))
      go_roundw
      case rel =>
        refine ⟨k + 1, by omega, by go_num, ?_, ?_⟩
        · rw [HS.out, List.map_append]; exact hown3
        · exact (HBE.out.alloc HBE.out.size _).grown hgrow3 (by simp; omega) (fun j e => (hown.lt j e).1)
      case measure => simp [intOf]; omega
    · have e : k = n := by omega
      subst e
      have hzt : Z.take k = Z := List.take_of_length_le (by rw [HZL.out, HN.out]; omega)
      rw [hzt] at hown
      clear hzt
      go_wp2
      go_ret
      exact ⟨⟨_, rfl, hown⟩, hbel⟩
end Go.Proofs.Ytcieggaihelacaa
