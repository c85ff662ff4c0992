/- bytes.Repeat at one byte, and the program's grey picture. -/
import Derived.Test.YtcieggaihelacaaPi
import Derived.Lib.MakeNoZero
set_option linter.unusedSimpArgs false
set_option linter.unusedVariables false
namespace Go.Proofs.Ytcieggaihelacaa
open Go.RowKit
set_option maxRecDepth 100000
theorem mul64_any (n : Int) (w : World) (hn : n = 38016 ∨ n = 152064) :
    Calls Try.prog 106 #[.int .u64 1, .int .u64 n] w fun e w' => e = .returned (.tuple #[.int .u64 0, .int .u64 n]) ∧ w = w' := by
  have e1 : bits .and .u64 1 4294967295 = 1 := by kernel_rfl
  have e2 : bits .and .u64 38016 4294967295 = 38016 := by kernel_rfl
  have e3 : bits .and .u64 152064 4294967295 = 152064 := by kernel_rfl
  have e4 : bits .and .u64 0 4294967295 = 0 := by kernel_rfl
  rcases hn with rfl | rfl
  · go_enter Try.func106, Try.ntmps106
    go_wp2
    go_ret2
    exact ⟨rfl, rfl⟩
  · go_enter Try.func106, Try.ntmps106
    go_wp2
    go_ret2
    exact ⟨rfl, rfl⟩
theorem mul_any (n : Int) (w : World) (hn : n = 38016 ∨ n = 152064) :
    Calls Try.prog 102 #[.int .u64 1, .int .u64 n] w fun e w' => e = .returned (.tuple #[.int .u64 0, .int .u64 n]) ∧ w = w' := by
  go_enter Try.func102, Try.ntmps102
  go_wp2_with (go_at_call 106; refine (mul64_any n _ hn).mono ?_; rintro e w' ⟨rfl, rfl⟩)
  go_ret2
  exact ⟨rfl, rfl⟩
def reps (k : Nat) : List Value := List.replicate k (.int .u8 128)
theorem run_copyC {ty : TypeId} {w : World} {gb p n1 n2 dc sb so sc : Nat} {cs cur : List Value} {t : TypeId} (hp : w.heap[gb]? = some (.cells cur.toArray t (0, 0))) (hm : cs.length = Nat.min n2 n1)
    (hv : ∀ j v, cs[j]? = some v → w.cell? ⟨sb, so + j, none⟩ = some v) (hfit : p + cs.length ≤ cur.length) (h1 : ∀ v ∈ cs, v.oneCell' = true) :
    ∃ w', (Builtin.copy_ #[24, 24] ty #[.slice (some ⟨gb, p, none⟩) n1 dc, .slice (some ⟨sb, so, none⟩) n2 sc]).run Try.prog w = .ok (goInt cs.length) w' ∧ w'.heap[gb]? = some (.cells (cur.take p ++ (cs ++ cur.drop (p + cs.length))).toArray t (0, 0)) ∧ w.grownBy w' (some gb) := by
  have hr := run_copy_row (P := Try.prog) w 24 24 ty 5 gb p n1 dc ⟨sb, so, none⟩ n2 sc _ t cs Try.underlying24 (by kernel_rfl) hp hm (fun j y hj => by
    have h1 := hv j y hj
    unfold Addr.add
    split
    · rename_i e0; subst e0; exact h1
    · exact h1) (by simpa using hfit) h1
  refine ⟨_, hr, ?_, ⟨rfl, rfl, rfl, by simp [World.setRow], fun k hk hne => setRow_other w gb k _ (fun e => hne (by rw [e]))⟩⟩
  rw [setRow_heap w gb _ _ _ _ hp]
  simp only [List.append_assoc]
theorem opIn_copy {F : Fence} {nF : Nat} {K : Act → World → Prop} {Q : Exit → Act → World → Prop} {a : Act} {w w' : World} {dst : Option Tmp} {ty : TypeId} {pos : String} {aft : Array Edge} {gd : Option (Nat × Bool)} {d s : Operand} {vd vs r : Value}
    (hd : a.eval d = vd) (hs : a.eval s = vs) (hr : (Builtin.copy_ #[24, 24] ty #[vd, vs]).run Try.prog w = .ok r w') (h : K (a.put dst r) w') :
    Oper.wpIn F nF Try.prog ⟨dst, .call { callee := .builtin .copy, args := #[d, s], argTypes := #[24, 24] }, ty, pos, aft, gd⟩ a w K Q := by
  unfold Oper.wpIn
  refine ⟨by simp [Oper.about, resolve, Target.leads, Sem.run_pure], ?_⟩
  rw [Oper.semAt_plain F _ _ (by intro c hc'; cases hc')]
  simp [execOp, resolve, invoke, builtin, hs, hd, hr, Result.andThen]
  exact h
theorem reps_cell {w : World} {g k : Nat} {rest : List Value} {t : TypeId} (h : w.heap[g]? = some (.cells (reps k ++ rest).toArray t (0, 0))) {j : Nat} {v : Value} {m : Nat} (hm : m ≤ k) (hj : (reps m)[j]? = some v) : w.cell? ⟨g, j, none⟩ = some v := by
  rw [blk_cell h, List.getElem?_toArray, List.getElem?_append_left (by
    have := (List.getElem?_eq_some_iff.1 hj).1
    unfold reps at this ⊢
    simp at this ⊢; omega)]
  unfold reps at hj ⊢
  rw [List.getElem?_replicate] at hj ⊢
  split at hj
  · rw [if_pos (by omega)]; exact hj
  · cases hj
theorem reps_take {k m : Nat} (rest : List Value) (h : m ≤ k) : (reps k ++ rest).take m = reps m := by
  unfold reps
  rw [List.take_append_of_le_length (by simpa using h), List.take_replicate, Nat.min_eq_left h]
set_option maxHeartbeats 4000000 in
theorem repeat_any (v : Value) (n : Nat) (w : World) (h : Rd .u8 w v [128]) (hn : n = 38016 ∨ n = 152064) :
    Calls Try.prog 94 #[v, .int .i64 (n : Int)] w fun e w' => (∃ g tl, e = .returned (.slice (some ⟨g, 0, none⟩) n n) ∧ w.heap.size ≤ g ∧ Pic w' g (List.replicate n 128) tl) ∧ Below w.heap.size w w' := by
  obtain ⟨sb, so, sc, rfl, hsb, hsc, hsh⟩ := h.solid (by decide)
  have hc0 := hsh 0 (by decide)
  simp only [List.length_singleton, List.getElem?_cons_zero, Option.getD_some, Nat.add_zero] at hc0 hsc ⊢
  obtain ⟨cs, hrunM, hle, hmax⟩ := Lib.run_makeNoZero (P := Try.prog) w #[3] 24 5 Try.underlying24 n (by omega)
  have hcall : (callFunc 103 #[.int .i64 (n : Int)]).run Try.prog w = .ok (.value (.slice (some ⟨w.heap.size, 0, none⟩) n cs.size)) ((w.alloc (.cells cs 5)).drewN 2) := by
    rw [run_callFunc_extern Try.func103 (by kernel_rfl) (by kernel_rfl) (by kernel_rfl) (e := Extern.BytealgMakeNoZero.makeNoZero #[3] #[24]) (by kernel_rfl), hrunM]
    rfl
  clear hrunM hsh h hmax
  have hn1 : 8192 < (n : Int) := by omega
  have hn2 : (n : Int) ≤ 152064 := by omega
  have hlec : (n : Int) ≤ (cs.size : Int) := by omega
  have hmul := mul_any (n : Int) w (by omega)
  have HMUL := Lib.hid hmul
  have hn0 : ((n : Int) == 0) = false := by simp; omega
  clear hmul
  obtain ⟨w2, hr1, hh1, hg1⟩ := run_copyC (ty := 3) (w := (w.alloc (.cells cs 5)).drewN 2) (gb := w.heap.size) (p := 0) (n1 := n) (n2 := 1) (dc := n) (sb := sb) (so := so) (sc := sc) (cs := reps 1) (cur := cs.toList) (t := 5) (by rw [Array.toArray_toList]; exact World.alloc_heap_new w _) (by show (reps 1).length = min 1 n; rw [Nat.min_eq_left (by omega)]; rfl) (fun j y hj => by
    have h1 : j = 0 ∧ y = .int .u8 128 := by
      cases j with
      | zero => exact ⟨rfl, by simpa [reps] using hj.symm⟩
      | succ j => simp [reps] at hj
    obtain ⟨rfl, rfl⟩ := h1
    exact (World.cell?_alloc_lt w _ _ hsb).trans hc0) (by unfold reps; simp; omega) (by intro y hy; rw [List.eq_of_mem_replicate hy]; rfl)
  rw [show (reps 1).length = 1 from rfl] at hr1 hh1
  simp only [List.take_zero, List.nil_append, Nat.zero_add] at hh1
  have hB2 : Below w.heap.size w w2 := (below_drewN ((Below.refl w.heap.size w).alloc (Nat.le_refl _) (.cells cs 5)) 2).grown hg1 (by simp) (fun j e => by cases e; exact Nat.le_refl _)
  have HH1 := Lib.hid hh1
  have HB2 := Lib.hid hB2
  clear hh1 hg1 hB2 hc0
  go_enter Try.func94, Try.ntmps94
  go_wp2_with (go_at_call 102; refine HMUL.out.mono ?_; rintro e w' ⟨rfl, rfl⟩)
  clear hr1 hcall hn0
  go_loopw [10, 11] (fun i _ wr => ∃ k : Nat, 1 ≤ k ∧ k ≤ n ∧ i = .int .i64 k ∧ Below w.heap.size w wr ∧ ∃ rest : List Value, k + rest.length = cs.size ∧ wr.heap[w.heap.size]? = some (.cells (reps k ++ rest).toArray 5 (0, 0))) (fun i _ _ => n - (intOf i).toNat)
  case atStart => exact ⟨1, by omega, by omega, rfl, HB2.out, cs.toList.drop 1, by simp; omega, HH1.out⟩
  case round =>
    obtain ⟨k, hk1, hk, rfl, hb, rest, hrl, hh⟩ := hrel
    have HR := Lib.hid hrl
    have HHK := Lib.hid hh
    have HBB := Lib.hid hb
    clear hrl hh hb HH1
    by_cases hlt : k < n
    · have hkn : (k : Int) < n := by omega
      have hk0 : 1 ≤ (k : Int) := by omega
      obtain ⟨m, hm⟩ : ∃ m : Nat, min k 8192 = m := ⟨_, rfl⟩
      have hm1 : min (k : Int) 8192 = (m : Int) := by omega
      have hmk : m ≤ k ∧ 1 ≤ m ∧ m ≤ n := by omega
      have hkm : k + (n - k) ≤ n := by omega
      obtain ⟨d, hd⟩ : ∃ d : Nat, Nat.min m (n - k) = d := ⟨_, rfl⟩
      have hdb : d ≤ m ∧ 1 ≤ d ∧ k + d ≤ n := by simp only [← hd, Nat.min_def]; split <;> omega
      obtain ⟨w4, hr4, hh4, hg4⟩ := run_copyC (ty := 3) (w := wr.drew) (gb := w.heap.size) (p := k) (n1 := n - k) (n2 := m) (dc := n - k) (sb := w.heap.size) (so := 0) (sc := n) (cs := reps d) (cur := reps k ++ rest) (t := 5) HHK.out (by unfold reps; simpa using hd.symm) (fun j y hj => by rw [Nat.zero_add]; exact reps_cell (w := wr.drew) HHK.out (m := d) (by omega) hj) (by have := HR.out; unfold reps; simp; omega) (by intro y hy; rw [List.eq_of_mem_replicate hy]; rfl)
      have hlen : (reps d).length = d := by unfold reps; simp
      rw [hlen] at hr4 hh4
      have hcells : (reps k ++ rest).take k ++ (reps d ++ (reps k ++ rest).drop (k + d)) = reps (k + d) ++ rest.drop d := by
        unfold reps
        rw [List.take_append_of_le_length (by simp), List.take_replicate, Nat.min_self, List.drop_append, List.length_replicate, ← List.append_assoc, List.replicate_append_replicate, List.drop_of_length_le (by simp), List.nil_append, show k + d - k = d by omega]
      rw [hcells] at hh4
      have HH4 := Lib.hid hh4
      have HG4 := Lib.hid hg4
      have HR4 := Lib.hid hr4
      clear hcells hlen hh4 hg4 hr4 hd hm
      have hmn : m ≤ n := by omega
      have hmn' : (m : Int) ≤ (n : Int) := by omega
      have hkn2 : ¬ n = k := by omega
      go_wp2
      refine wp_region_mix (fun _ => True) [8, 9] [(0, true), (1, true), (2, true), (3, true), (4, true), (5, true), (6, true), (7, false), (8, false), (9, false)] (by kernel_rfl) (by kernel_rfl) rfl (by kernel_rfl) trivial ?_
      iterate 3 (refine mix_q rfl rfl (fun w' hB => by go_simp; rfl) ?_; simp only [Act.put, List.setIfInBounds_toArray, List.set_cons_succ, List.set_cons_zero])
      refine mix_q (v := .slice (some ⟨w.heap.size, k, none⟩) (n - k) (n - k)) rfl rfl (fun w' hB => by go_simp) ?_; simp only [Act.put, List.setIfInBounds_toArray, List.set_cons_succ, List.set_cons_zero]
      iterate 2 (refine mix_q rfl rfl (fun w' hB => by go_simp; rfl) ?_; simp only [Act.put, List.setIfInBounds_toArray, List.set_cons_succ, List.set_cons_zero])
      refine mix_q (v := .slice (some ⟨w.heap.size, 0, none⟩) m n) rfl rfl (fun w' hB => by go_simp) ?_; simp only [Act.put, List.setIfInBounds_toArray, List.set_cons_succ, List.set_cons_zero]
      refine mix_e rfl rfl (opIn_copy rfl rfl HR4.out ⟨fun _ => trivial, ?_⟩)
      have hw : IntKind.i64.wrap ((k : Int) + (d : Int)) = (k : Int) + (d : Int) := w64 (by omega) (by omega)
      refine mix_e rfl rfl ?_
      go_simp
      refine mix_e rfl rfl ?_
      go_simp
      refine mix_nil ?_
      go_wp2
      go_roundw
      case rel => exact ⟨k + d, by omega, by omega, by go_num, (below_drewN HBB.out 1).grown HG4.out (by have := HBB.out.size; simpa using this) (fun j e => by cases e; exact Nat.le_refl _), rest.drop d, by have := HR.out; rw [List.length_drop]; omega, HH4.out⟩
      case measure => simp [intOf]; omega
    · have e : k = n := by omega
      subst e
      go_wp2
      go_ret
      refine ⟨⟨w.heap.size, rest, rfl, Nat.le_refl _, ?_⟩, HBB.out⟩
      unfold Pic
      rw [List.map_replicate]
      exact HHK.out
theorem rd_128 (w : World) : Rd .u8 (w.alloc (.cells #[.int .u8 128] 5)) (.slice (some ⟨w.heap.size, 0, none⟩) 1 1) [128] := Rd.new1 .u8 w 128 5
/-- What the program's grey picture is. -/
def GreyV (f : Int) (w w' : World) (r : Value) : Prop := (fmtE f ≠ 0 ∧ r = .slice none 0 0) ∨ ∃ g n tl, fmtE f = 0 ∧ r = .slice (some ⟨g, 0, none⟩) n n ∧ (n : Int) = bytesS f ∧ (greyL f).length = n ∧ w.heap.size ≤ g ∧ Pic w' g (greyL f) tl
theorem grey_any (f : Int) (w : World) :
    Calls Try.prog 68 #[.int .i64 f] w fun e w' => (∃ r, e = .returned r ∧ GreyV f w w' r) ∧ Below w.heap.size w w' := by
  by_cases hE : fmtE f = 0
  · obtain ⟨n, hn, hnb⟩ : ∃ n : Nat, bytesS f = n ∧ (n = 38016 ∨ n = 152064) := by
      rcases fmt_cases f with ⟨_, _, _, e, _⟩ | ⟨_, _, _, e, _⟩ | ⟨_, _, _, _, _, e⟩
      · exact ⟨152064, e, .inr rfl⟩
      · exact ⟨38016, e, .inl rfl⟩
      · rw [e] at hE; cases hE
    have hg : greyL f = List.replicate n 128 := by unfold greyL; rw [hn]; rfl
    have hres : ∀ w' r, (∃ g tl, r = .slice (some ⟨g, 0, none⟩) n n ∧ w.heap.size ≤ g ∧ Pic w' g (List.replicate n 128) tl) → GreyV f w w' r := fun w' r ⟨g, tl, h1, h2, h3⟩ => .inr ⟨g, n, tl, hE, h1, hn.symm, by rw [hg]; simp, h2, by rw [hg]; exact h3⟩
    have HRES := Lib.hid hres
    have HB := Lib.hid ((Below.refl w.heap.size w).alloc (Nat.le_refl _) (.cells #[.int .u8 128] 5))
    have HN := Lib.hid hn
    have HE := Lib.hid hE
    have HNB := Lib.hid hnb
    clear hn hE hg hres hnb
    go_enter Try.func68, Try.ntmps68
    go_wp2_with (first
      | (go_at_call 37; refine (size_any _ _).mono ?_; rw [HN.out, HE.out]; rintro e w' ⟨rfl, rfl⟩)
      | (go_at_call 94; refine (repeat_any _ n _ (rd_128 w) HNB.out).mono ?_; rintro e w1 ⟨⟨g, tl, rfl, hg1, hp1⟩, hb1⟩; have HP1 := Lib.hid hp1; have HB1 := Lib.hid (below_nxt HB.out hb1); clear hp1 hb1))
    go_ret
    exact ⟨⟨_, rfl, HRES.out _ _ ⟨g, tl, rfl, by simp at hg1; omega, HP1.out⟩⟩, HB1.out⟩
  · have ht : (fmtE f != 0) = true := by simpa using hE
    have HE := Lib.hid hE
    clear hE
    go_enter Try.func68, Try.ntmps68
    go_wp2_with (go_at_call 37; refine (size_any _ _).mono ?_; rintro e w' ⟨rfl, rfl⟩)
    go_ret
    exact ⟨⟨_, rfl, .inl ⟨HE.out, rfl⟩⟩, Below.refl _ _⟩
end Go.Proofs.Ytcieggaihelacaa
