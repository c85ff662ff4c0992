/- Grey pictures: the document's. -/
import Derived.Test.YtcieggaihelacaaPh
set_option linter.unusedSimpArgs false
set_option linter.unusedVariables false
namespace Go.Proofs.Ytcieggaihelacaa
open Go.RowKit
set_option maxRecDepth 100000
def greyL (f : Int) : List Int := List.replicate (bytesS f).toNat 128
theorem greyL_len (f : Int) : ((greyL f).length : Int) = bytesS f := by
  unfold greyL
  rw [List.length_replicate]
  rcases fmt_cases f with ⟨_, _, _, e, _⟩ | ⟨_, _, _, e, _⟩ | ⟨_, _, _, _, e, _⟩ <;> rw [e] <;> rfl
theorem greyL_byt (f : Int) : byt (greyL f) := fun x hx => by rw [List.eq_of_mem_replicate hx]; decide
theorem greyL_none {f : Int} (h : fmtE f ≠ 0) : greyL f = [] := by
  unfold greyL
  rcases fmt_cases f with ⟨_, _, _, _, e⟩ | ⟨_, _, _, _, e⟩ | ⟨_, _, _, _, e, _⟩
  · exact absurd e h
  · exact absurd e h
  · rw [e]; rfl
theorem rep_step (n k : Nat) (hk : k < n) : (List.replicate k (128 : Int) ++ List.replicate (n - k) 0).set k 128 = List.replicate (k + 1) 128 ++ List.replicate (n - (k + 1)) 0 := by
  rw [List.set_append_right _ _ (by simp), List.length_replicate, Nat.sub_self, show n - k = (n - (k + 1)) + 1 by omega, List.replicate_succ, List.set_cons_zero, List.replicate_succ']
  simp
set_option maxHeartbeats 1000000 in
theorem rgrey_any (f : Int) (w : World) :
    Calls Try.prog 69 #[.int .i64 f] w fun e w' => (∃ r, e = .returned r ∧ w'.ownsRow w.heap.size 5 1 r (greyL f).length ((greyL f).map (Value.int .u8))) ∧ Below w.heap.size w w' := by
  by_cases hE : fmtE f = 0
  · obtain ⟨n, hn, hnb⟩ : ∃ n : Nat, bytesS f = n ∧ n ≤ 152064 := by
      rcases fmt_cases f with ⟨_, _, _, e, _⟩ | ⟨_, _, _, e, _⟩ | ⟨_, _, _, _, e, _⟩ <;> rw [e]
      · exact ⟨152064, rfl, by omega⟩
      · exact ⟨38016, rfl, by omega⟩
      · exact ⟨0, rfl, by omega⟩
    have hg : greyL f = List.replicate n 128 := by unfold greyL; rw [hn]; rfl
    have hmk := fun W => run_make_row' (P := Try.prog) 24 5 (.int .u8 0) 1 Try.underlying24 (by kernel_rfl) rfl .i64 .i64 n (by omega) (by omega) W
    have HZ := Lib.hid (pic_zero w n)
    have HB := Lib.hid ((Below.refl w.heap.size w).alloc (Nat.le_refl _) (.cells (madeCells #[Value.int .u8 0] n) 5))
    have HN := Lib.hid hn
    have HE := Lib.hid hE
    rw [hg]
    clear hn hE hg
    go_enter Try.func69, Try.ntmps69
    go_wp2_with (go_at_call 38; refine (rsize_any _ _).mono ?_; rw [HN.out, HE.out]; rintro e w' ⟨rfl, rfl⟩)
    go_loopw [8] (fun i wr => ∃ k : Nat, k ≤ n ∧ i = .int .i64 k ∧ Below w.heap.size w wr ∧ Pic wr w.heap.size (List.replicate k 128 ++ List.replicate (n - k) 0) []) (fun i _ => n - (intOf i).toNat)
    case atStart => exact ⟨0, Nat.zero_le _, rfl, HB.out, by simpa using HZ.out⟩
    case round =>
      obtain ⟨k, hk, rfl, hb, hp⟩ := hrel
      have HP := Lib.hid hp
      have HBB := Lib.hid hb
      clear hp hb
      by_cases hlt : k < n
      · have hkn : (k : Int) < n := by omega
        have hc := HP.out.cell (i := k) (by simp; omega)
        have hf := HP.out.free k
        generalize (List.replicate k (128 : Int) ++ List.replicate (n - k) 0)[k]?.getD 0 = u at hc
        go_wp2
        go_roundw
        case rel => exact ⟨k + 1, by omega, by go_num, HBB.out.setCell (Nat.le_refl _) _, by rw [← rep_step n k hlt]; exact HP.out.set (by simp; omega) _⟩
        case measure => simp [intOf]; omega
      · have e : k = n := by omega
        subst e
        go_wp2
        go_ret
        have hp := HP.out
        rw [Nat.sub_self, List.replicate_zero, List.append_nil] at hp
        have ho := hp.owns (base := w.heap.size) (Nat.le_refl _) (by simp [maxLen]; omega)
        rw [List.length_nil, Nat.add_zero, List.length_replicate] at ho
        exact ⟨⟨_, rfl, by rw [List.length_replicate]; exact ho⟩, HBB.out⟩
  · have ht : (fmtE f != 0) = true := by simpa using hE
    rw [greyL_none hE]
    clear hE
    go_enter Try.func69, Try.ntmps69
    go_wp2_with (go_at_call 38; refine (rsize_any _ _).mono ?_; rintro e w' ⟨rfl, rfl⟩)
    go_ret
    exact ⟨⟨_, rfl, World.ownsRow_nil _ _ _ _⟩, Below.refl _ _⟩
end Go.Proofs.Ytcieggaihelacaa
