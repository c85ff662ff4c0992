/- Marks of ranges over functions that gather in a loop; the program's Copy. -/
import Derived.Test.YtcieggaihelacaaBtj
set_option linter.unusedSimpArgs false
set_option linter.unusedVariables false
namespace Go.Proofs.Ytcieggaihelacaa
open Go.RowKit Go.Shelf
set_option maxRecDepth 100000
attribute [local go_sem] Oper.semAt_some
def mk1 (d : Nat) : Deferred := { target := .collected d, args := #[] }
/-- Blocks that hold no deferred call, each once. -/
def Olds (lo : Nat) (ds : List Nat) (W : World) : Prop := ds.Nodup ∧ ∀ d ∈ ds, lo ≤ d ∧ W.heap[d]? = some (.deferred (some []))
theorem Olds.kept {lo : Nat} {ds : List Nat} {W W' : World} {row : Option Nat} (h : Olds lo ds W) (hg : W.grownBy W' row) (hr : ∀ d ∈ ds, some d ≠ row) : Olds lo ds W' := ⟨h.1, fun d hd => ⟨(h.2 d hd).1, blk_kept (h.2 d hd).2 hg (hr d hd)⟩⟩
theorem Olds.below {lo : Nat} {ds : List Nat} {W W' : World} (h : Olds lo ds W) (hb : Below W.heap.size W W') : Olds lo ds W' := h.kept (below_grown hb none) (fun _ _ => by simp)
theorem Olds.lt {lo : Nat} {ds : List Nat} {W : World} (h : Olds lo ds W) : ∀ d ∈ ds, d < W.heap.size := fun d hd => blk_lt (h.2 d hd).2
theorem Olds.ab {lo B : Nat} {T : Nat → Prop} {ds : List Nat} (hB : ∀ d ∈ ds, d < B) (hT : ∀ k, ¬ T k) : Ab B T (fun _ W => Olds lo ds W) := fun k W W' row hj hg hr =>
  hj.kept hg (fun d hd e => by
    rcases hr d e.symm with h | ⟨h, _⟩
    · exact hT d h
    · have := hB d hd; omega)
theorem leaves_marks {F : Fence} {n : Nat} {P : Program} {fn : Func} {tmps : Array Value} {R : Ending → World → Prop} {w0 : World} {gb : Option Nat} : ∀ {ds : List Nat} {w : World}, Olds w0.heap.size ds w → w0.grownBy w gb → (∀ d ∈ ds, some d ≠ gb) →
    (∀ w', w0.grownBy w' gb → (∀ k, k ∉ ds → w'.heap[k]? = w.heap[k]?) → LeavesIn F n P fn tmps R [] .returning w') → LeavesInM F n P fn tmps R (ds.map mk1) .returning w
  | [], w, _, hg, _, h => h w hg (fun _ _ => rfl)
  | d :: ds, w, ho, hg, hgb, h => by
    obtain ⟨nd, ho⟩ := ho
    rw [List.nodup_cons] at nd
    obtain ⟨h1, h2⟩ := ho d (by simp)
    refine ⟨by simp, .inl ⟨d, _, rfl, run_takeDeferred h2, ?_⟩⟩
    have hp := grownBy_putObj' w d (.deferred none)
    refine leaves_marks ⟨nd.2, fun j hj => ⟨(ho j (by simp [hj])).1, blk_kept (ho j (by simp [hj])).2 hp (fun e => by cases e; exact nd.1 hj)⟩⟩
      ⟨hp.os.trans hg.os, hp.tape.trans hg.tape, hp.output.trans hg.output, Nat.le_trans hg.size hp.size, fun k hk hne => (hp.block k (Nat.lt_of_lt_of_le hk hg.size) (fun e => by cases e; omega)).trans (hg.block k hk hne)⟩ (fun j hj => hgb j (by simp [hj])) (fun w' hw' hk' => h w' hw' (fun k hk => ?_))
    simp only [List.mem_cons, not_or] at hk
    rw [hk' k hk.2]
    exact World.putObj_heap_other hk.1
theorem arr72 (A : Array Value) (h : A.size = 72) : ∃ u : Nat → Value, A = #[u 0, u 1, u 2, u 3, u 4, u 5, u 6, u 7, u 8, u 9, u 10, u 11, u 12, u 13, u 14, u 15, u 16, u 17, u 18, u 19, u 20, u 21, u 22, u 23, u 24, u 25, u 26, u 27, u 28, u 29, u 30, u 31, u 32, u 33, u 34, u 35, u 36, u 37, u 38, u 39, u 40, u 41, u 42, u 43, u 44, u 45, u 46, u 47, u 48, u 49, u 50, u 51, u 52, u 53, u 54, u 55, u 56, u 57, u 58, u 59, u 60, u 61, u 62, u 63, u 64, u 65, u 66, u 67, u 68, u 69, u 70, u 71] := by
  obtain ⟨l⟩ := A
  refine ⟨fun i => l[i]?.getD undef, ?_⟩
  have hl : l.length = 72 := h
  congr 1
  apply List.ext_getElem?
  intro i
  by_cases hi : i < 72
  · have h2 := List.getElem?_eq_getElem (l := l) (i := i) (by omega)
    rw [h2]
    iterate 72 (rcases i with _ | i; · simp [h2])
    omega
  · rw [List.getElem?_eq_none (by omega), List.getElem?_eq_none (by simp; omega)]
end Go.Proofs.Ytcieggaihelacaa
/- The contract of the program's Copy. -/
set_option linter.unusedSimpArgs false
set_option linter.unusedVariables false
namespace Go.Proofs.Ytcieggaihelacaa
open Go.RowKit Go.Shelf
set_option maxRecDepth 100000
attribute [local go_sem] Oper.semAt_some
def cpE (f g a : Int) (n m : Nat) : Int := if cornE f g a = 0 then (if (n : Int) = bytesS f ∧ (m : Int) = bytesS f then 0 else 2) else cornE f g a
/-- The first j blocks of a spot, copied. -/
def cpN (f g a : Int) (ys : List Int) : Nat → List Int → List Int
  | 0, xs => xs
  | j + 1, xs => put (layQ f g a ((j : Int) + 1)) (fun i => ys[layQ f g a ((j : Int) + 1) i]?.getD 0) 64 (cpN f g a ys j xs)
def cpL (f g a : Int) (xs ys : List Int) : List Int := if cpE f g a xs.length ys.length = 0 then cpN f g a ys 6 xs else xs
theorem cpN_len (f g a : Int) (ys : List Int) (j : Nat) (xs : List Int) : (cpN f g a ys j xs).length = xs.length := by
  induction j with
  | zero => rfl
  | succ j ih => unfold cpN; rw [put_len, ih]
theorem cpL_len (f g a : Int) (xs ys : List Int) : (cpL f g a xs ys).length = xs.length := by
  unfold cpL; split
  · rw [cpN_len]
  · rfl
theorem cpN_byt (f g a : Int) {xs ys : List Int} (hx : byt xs) (hy : byt ys) (j : Nat) : byt (cpN f g a ys j xs) := by
  induction j with
  | zero => exact hx
  | succ j ih => exact ih.put (fun i => hy.at _) 64
theorem cpL_none {f g a : Int} {xs ys : List Int} (h : cpE f g a xs.length ys.length ≠ 0) : cpL f g a xs ys = xs := by unfold cpL; rw [if_neg h]
theorem cp_cases (f g a : Int) (n m : Nat) :
    (cornE f g a ≠ 0 ∧ cpE f g a n m = cornE f g a) ∨
    (cornE f g a = 0 ∧ (n : Int) ≠ bytesS f ∧ cpE f g a n m = 2) ∨
    (cornE f g a = 0 ∧ (n : Int) = bytesS f ∧ (m : Int) ≠ bytesS f ∧ cpE f g a n m = 2) ∨
    (cornE f g a = 0 ∧ (n : Int) = bytesS f ∧ (m : Int) = bytesS f ∧ cpE f g a n m = 0) := by
  unfold cpE
  by_cases h1 : cornE f g a = 0
  · by_cases h2 : (n : Int) = bytesS f
    · by_cases h3 : (m : Int) = bytesS f
      · exact .inr (.inr (.inr ⟨h1, h2, h3, by rw [if_pos h1, if_pos ⟨h2, h3⟩]⟩))
      · exact .inr (.inr (.inl ⟨h1, h2, h3, by rw [if_pos h1, if_neg (fun h => h3 h.2)]⟩))
    · exact .inr (.inl ⟨h1, h2, by rw [if_pos h1, if_neg (fun h => h2 h.1)]⟩)
  · exact .inl ⟨h1, by rw [if_neg h1]⟩
set_option maxHeartbeats 2000000 in
theorem copy_bad (f g a : Int) (va : Option Addr) (n c : Nat) (u : Value) (ys : List Int) (w : World) (hs : Rd .u8 w u ys) (hl : n ≤ 140737488351232) (ha : -9223372036854775808 ≤ a) (ha2 : a ≤ 9223372036854775807) (hne : cpE f g a n ys.length ≠ 0) :
    Calls Try.prog 56 #[.slice va n c, u, .agg #[.int .i64 f, .int .i64 g, .int .i64 a]] w fun e w' => e = .returned (.int .i64 (cpE f g a n ys.length)) ∧ Below w.heap.size w w' := by
  refine (callsIn_wide (n := 0)).1 ?_
  have hwf : ∀ f, Fence.wide.fn f := fun _ => trivial
  have hwd : Fence.wide.depth = none := rfl
  have hsl := hs.len
  obtain ⟨ua, uc, rfl⟩ := hs.form
  obtain ⟨m, hm⟩ : ∃ m, ys.length = m := ⟨_, rfl⟩
  rw [hm] at hne hsl ⊢
  clear hs hm
  have hB := ((Below.refl w.heap.size w).alloc (Nat.le_refl _) (Obj.cells #[.slice ua m uc] 24)).alloc (by simp) (Obj.cells #[.int .i64 f, .int .i64 g, .int .i64 a] 23)
  have hL := ((Lies.nil w).alloc (Obj.cells #[.slice ua m uc] 24)).alloc (Obj.cells #[.int .i64 f, .int .i64 g, .int .i64 a] 23)
  simp only [World.size_alloc] at hL
  have HB := Lib.hid hB
  have HL := Lib.hid hL
  clear hB hL
  have hpc := pcorner_any f g a
  have HPC := Lib.hid hpc
  clear hpc
  rcases cp_cases f g a n m with ⟨hc, e⟩ | ⟨hc, h1, e⟩ | ⟨hc, h1, h2, e⟩ | ⟨_, _, _, e⟩
  · rw [e]; clear e hne
    have ht : (cornE f g a != 0) = true := by simpa using hc
    rw [if_neg hc] at HPC
    clear hc
    (refine callsIn_of_wp_marks Try.func56 rfl trivial ?_ rfl; simp only [Try.ntmps56, List.size_toArray, List.length_cons, List.length_nil, Nat.reduceAdd, Nat.reduceSub, Array.replicate_succ, Array.replicate_zero, List.push_toArray, List.append_toArray, List.nil_append, List.cons_append])
    gi_wp2_with (gi_at_call 89; refine (callsIn_wide.2 (HPC.out _ ha ha2)).mono ?_; rintro e w1 ⟨rfl, hb1⟩; have HB1 := Lib.hid (below_nxt HB.out hb1); clear hb1)
    exact ⟨_, by simp [results, Try.results56, go_sem], rfl, HB1.out⟩
  · rw [e]; clear e hne
    have ht : ((n : Int) != bytesS f) = true := by simpa using h1
    rw [if_pos hc, hc] at HPC
    clear hc h1
    (refine callsIn_of_wp_marks Try.func56 rfl trivial ?_ rfl; simp only [Try.ntmps56, List.size_toArray, List.length_cons, List.length_nil, Nat.reduceAdd, Nat.reduceSub, Array.replicate_succ, Array.replicate_zero, List.push_toArray, List.append_toArray, List.nil_append, List.cons_append])
    gi_wp2_with (gi_at_call 89; refine (callsIn_wide.2 (HPC.out _ ha ha2)).mono ?_; rintro e w1 ⟨rfl, hb1⟩; have HB1 := Lib.hid (below_nxt HB.out hb1); clear hb1)
    exact ⟨_, by simp [results, Try.results56, go_sem], rfl, HB1.out⟩
  · rw [e]; clear e hne
    have ht : ((n : Int) != bytesS f) = false := by simpa using h1
    have ht2 : ((m : Int) != bytesS f) = true := by simpa using h2
    rw [if_pos hc, hc] at HPC
    clear hc h1 h2
    (refine callsIn_of_wp_marks Try.func56 rfl trivial ?_ rfl; simp only [Try.ntmps56, List.size_toArray, List.length_cons, List.length_nil, Nat.reduceAdd, Nat.reduceSub, Array.replicate_succ, Array.replicate_zero, List.push_toArray, List.append_toArray, List.nil_append, List.cons_append])
    gi_wp2_with (gi_at_call 89; refine (callsIn_wide.2 (HPC.out _ ha ha2)).mono ?_; rintro e w1 ⟨rfl, hb1⟩; have HB1 := Lib.hid (below_nxt HB.out hb1); have k1 := (HL.out.next hb1).tail.head; have cs := blk_cell k1 0; simp only [List.getElem?_toArray, List.getElem?_cons_zero] at cs; clear hb1 k1)
    exact ⟨_, by simp [results, Try.results56, go_sem], rfl, HB1.out⟩
  · exact absurd e hne
def CpI (f g a : Int) (gb n c fb fo fc : Nat) (ys : List Int) (tl : List Value) (C : Nat → List Int) (w : World) (A : Act) (wr : World) : Prop := ∃ (k : Nat) (ds : List Nat), 1 ≤ k ∧ k ≤ 7 ∧ A.tmps.size = 72 ∧ A.tmps.getD 0 undef = .slice (some ⟨gb, 0, none⟩) n c ∧ A.tmps.getD 4 undef = .pointer (some ⟨w.heap.size, 0, none⟩) ∧ A.tmps.getD 5 undef = .pointer (some ⟨w.heap.size + 1, 0, none⟩) ∧ A.tmps.getD 9 undef = .int .i64 k ∧ A.defers = ds.map mk1 ∧
      Pic wr gb (C (k - 1)) tl ∧ Lies [(w.heap.size + 1, Obj.cells #[.int .i64 f, .int .i64 g, .int .i64 a] 23), (w.heap.size, Obj.cells #[.slice (some ⟨fb, fo, none⟩) n fc] 24)] wr ∧ Rd .u8 wr (.slice (some ⟨fb, fo, none⟩) n fc) ys ∧ w.grownBy wr (some gb) ∧ Olds w.heap.size ds wr
set_option maxHeartbeats 8000000 in
theorem copy_ok (f g a : Int) (gb c : Nat) (xs ys : List Int) (tl : List Value) (u : Value) (w : World) (hp : Pic w gb xs tl) (hs : Rd .u8 w u ys) (hsb : ∀ k, u.ownBlock = some k → k ≠ gb) (hl : xs.length ≤ c) (ha : -9223372036854775808 ≤ a) (ha2 : a ≤ 9223372036854775807)
    (hc : cornE f g a = 0) (hn : (xs.length : Int) = bytesS f) (hm : (ys.length : Int) = bytesS f) :
    Calls Try.prog 56 #[.slice (some ⟨gb, 0, none⟩) xs.length c, u, .agg #[.int .i64 f, .int .i64 g, .int .i64 a]] w fun e w' => e = .returned (.int .i64 0) ∧ Pic w' gb (cpN f g a ys 6 xs) tl ∧ w.grownBy w' (some gb) := by
  refine (callsIn_wide (n := 0)).1 ?_
  have hwf : ∀ f, Fence.wide.fn f := fun _ => trivial
  have hwd : Fence.wide.depth = none := rfl
  have hsl0 := hs.len
  have hpos : 0 < ys.length := by
    rcases (corn_ok hc).1 with rfl | rfl
    · have e3 : bytesS 0 = 38016 := rfl
      omega
    · have e3 : bytesS 1 = 152064 := rfl
      omega
  obtain ⟨fb, fo, fc, rfl, hfl, hfc, hfh⟩ := hs.solid hpos
  have hpf : ∀ b : Int, 1 ≤ b ∧ b ≤ 6 → _ := fun b hb => pl_fit (b := b) hc hn hb
  have hQ : ∀ b : Int, 1 ≤ b ∧ b ≤ 6 → ∀ i, i < 64 → (layQ f g a b i : Int) = plcV f (cornerX f g a) (cornerY g a) b + (i : Int) / 8 * plcS f b + (i : Int) % 8 := fun b hb i hi => by
    rw [(layQ_is hc hn hb hi).1, fetI_0]
  have hpl : ∀ b : Int, 1 ≤ b ∧ b ≤ 6 → plE f g a b = 0 ∧ plA f g a b = plcV f (cornerX f g a) (cornerY g a) b ∧ plS f g a b = plcS f b := fun b hb => by
    have h : plE f g a b = 0 := by unfold plE; rw [if_pos hc, if_pos hb]
    exact ⟨h, by unfold plA; rw [if_pos h], by unfold plS; rw [if_pos h]⟩
  obtain ⟨n, hnn⟩ : ∃ n, xs.length = n := ⟨_, rfl⟩
  have hmm : ys.length = n := by omega
  have ht : ((n : Int) != bytesS f) = false := by rw [← hnn]; simpa using hn
  have hsb' : fb ≠ gb := hsb fb rfl
  have HPF := Lib.hid hpf
  have HQQ := Lib.hid hQ
  have HPL := Lib.hid hpl
  have HNN := Lib.hid hnn
  have HMM := Lib.hid hmm
  have HP := Lib.hid hp
  rw [hmm] at hs hfc hsl0 ⊢
  have HS := Lib.hid hs
  rw [hnn] at hl ⊢
  have hB := ((Below.refl w.heap.size w).alloc (Nat.le_refl _) (Obj.cells #[.slice (some ⟨fb, fo, none⟩) n fc] 24)).alloc (by simp) (Obj.cells #[.int .i64 f, .int .i64 g, .int .i64 a] 23)
  have hL := ((Lies.nil w).alloc (Obj.cells #[.slice (some ⟨fb, fo, none⟩) n fc] 24)).alloc (Obj.cells #[.int .i64 f, .int .i64 g, .int .i64 a] 23)
  simp only [World.size_alloc] at hL
  have HB := Lib.hid hB
  have HL := Lib.hid hL
  have hpc := pcorner_any f g a
  rw [if_pos hc, hc] at hpc
  have HPC := Lib.hid hpc
  have hgb := hp.lt
  have hcp : ∀ j, (cpN f g a ys j xs).length = n := fun j => by rw [cpN_len, HNN.out]
  have hcs : ∀ j : Nat, cpN f g a ys (j + 1) xs = put (layQ f g a ((j : Int) + 1)) (fun i => ys[layQ f g a ((j : Int) + 1) i]?.getD 0) 64 (cpN f g a ys j xs) := fun j => rfl
  have hc0 : cpN f g a ys 0 xs = xs := rfl
  obtain ⟨C, hC⟩ : ∃ C : Nat → List Int, (fun j => cpN f g a ys j xs) = C := ⟨_, rfl⟩
  have hCj : ∀ j, cpN f g a ys j xs = C j := fun j => by rw [← hC]
  simp only [hCj] at hcp hcs hc0 ⊢
  have HCP := Lib.hid hcp
  have HCS := Lib.hid hcs
  have HC0 := Lib.hid hc0
  clear hB hL hpc hc hn hm hpl hQ hnn hmm hp hs hfh hsb hpf hcp hcs hc0 hC hCj hpos
  (refine callsIn_of_wp_marks Try.func56 rfl trivial ?_ rfl; simp only [Try.ntmps56, List.size_toArray, List.length_cons, List.length_nil, Nat.reduceAdd, Nat.reduceSub, Array.replicate_succ, Array.replicate_zero, List.push_toArray, List.append_toArray, List.nil_append, List.cons_append])
  gi_wp2_with (first
    | (gi_at_call 89; refine (callsIn_wide.2 (HPC.out _ ha ha2)).mono ?_; rintro e w1 ⟨rfl, hb1⟩; have HB1 := Lib.hid (below_nxt HB.out hb1); have HL1 := Lib.hid (HL.out.next hb1); have cs := blk_cell HL1.out.tail.head 0; simp only [List.getElem?_toArray, List.getElem?_cons_zero] at cs; clear hb1))
  clear cs
  refine wpIn_loop (CpI f g a gb n c fb fo fc ys tl C w)
    (fun A _ => 10 - (intOf (A.tmps.getD 9 undef)).toNat) ?start ?round
  case start =>
    refine ⟨1, [], by omega, by omega, rfl, rfl, rfl, rfl, rfl, rfl, ?_, HL1.out, HS.out.below HB1.out, below_grown HB1.out _, by simp [Olds]⟩
    rw [HC0.out]
    exact HP.out.below HB1.out
  case round =>
    rintro ⟨tm0, df⟩ wr ⟨k, ds, hk1, hk7, hsz, e0, e4, e5, e9, hdf, hpic, hlies, hrd, hgr, hold⟩
    dsimp only at hsz e0 e4 e5 e9 hdf
    obtain ⟨u, rfl⟩ := arr72 tm0 hsz
    simp only [Array.getD_eq_getD_getElem?, List.getElem?_toArray, List.getElem?_cons_zero, List.getElem?_cons_succ, Option.getD_some] at e0 e4 e5 e9
    rw [e0, e4, e5, e9, hdf]
    clear e0 e4 e5 e9 hdf hsz
    have HPI := Lib.hid hpic
    have HLI := Lib.hid hlies
    have HRD := Lib.hid hrd
    have HGR := Lib.hid hgr
    have HOL := Lib.hid hold
    have hgs := hgr.size
    clear hpic hrd hgr hold
    by_cases hlt : k ≤ 6
    · have hkl : (k : Int) ≤ 6 := by omega
      have hb16 : (1 : Int) ≤ k ∧ (k : Int) ≤ 6 := by omega
      obtain ⟨p0, p1, p2, p3, p4⟩ := HPF.out k hb16
      have hq0 := HQQ.out k hb16
      obtain ⟨l1, l2, l3⟩ := HPL.out k hb16
      rw [HNN.out] at p4
      have hst := HCS.out (k - 1)
      rw [show (((k - 1 : Nat) : Int) + 1) = k by omega, show k - 1 + 1 = k by omega] at hst
      have hzl := HCP.out (k - 1)
      obtain ⟨PV, ePV⟩ : ∃ PV, plcV f (cornerX f g a) (cornerY g a) k = PV := ⟨_, rfl⟩
      obtain ⟨PS, ePS⟩ : ∃ PS, plcS f k = PS := ⟨_, rfl⟩
      rw [ePV] at p0 p1 p4 l2
      rw [ePS] at p2 p3 p4 l3
      simp only [ePV, ePS] at hq0
      obtain ⟨q, hq⟩ : ∃ q, layQ f g a k = q := ⟨_, rfl⟩
      rw [hq] at hq0 hst
      obtain ⟨v, hv⟩ : ∃ v : Nat → Int, (fun i => ys[q i]?.getD 0) = v := ⟨_, rfl⟩
      rw [hv] at hst
      obtain ⟨zs, hzs⟩ : ∃ zs, C (k - 1) = zs := ⟨_, rfl⟩
      rw [hzs] at hst hzl HPI
      have HV := Lib.hid hv
      have HQ := Lib.hid hq0
      have HST := Lib.hid hst
      have HZL := Lib.hid hzl
      have HLL := Lib.hid (And.intro l1 (And.intro l2 l3))
      clear hv hq0 hst hzl l1 l2 l3 ePV ePS hq hzs
      have k0 := hlies.head
      have c0 := blk_cell k0 0
      have c1 := blk_cell k0 1
      have c2 := blk_cell k0 2
      simp only [List.getElem?_toArray, List.getElem?_cons_zero, List.getElem?_cons_succ] at c0 c1 c2
      clear k0 hlies
      gi_wp2_with (first
        | (gi_at_call 48; refine (callsIn_wide.2 (place_any _ _ _ _ _ ha ha2)).mono ?_; rw [HLL.out.1, HLL.out.2.1, HLL.out.2.2]; rintro e w2 ⟨rfl, hb2⟩; have HB2 := Lib.hid hb2; clear hb2)
        | (gi_at_call 90; refine (callsIn_wide.2 (prows_any _ _ _ _ _ _)).mono ?_; rintro e w3 ⟨rfl, rfl⟩))
      clear c0 c1 c2
      obtain ⟨Z, hZ⟩ : ∃ Z, ((((w2.alloc (Obj.cells #[.int .i64 PV] 3)).alloc (Obj.cells #[.int .i64 PS] 3)).alloc (Obj.cells #[.slice (some ⟨gb, 0, none⟩) n c] 24)).alloc (Obj.cells #[.int .i64 PV] 3)).alloc (Obj.cells #[.int .i64 PS] 3) = Z := ⟨_, rfl⟩
      have hzsz : Z.heap.size = w2.heap.size + 1 + 1 + 1 + 1 + 1 := by rw [← hZ]; simp
      have zL := (((((HLI.out.next HB2.out).alloc (Obj.cells #[.int .i64 PV] 3)).alloc (Obj.cells #[.int .i64 PS] 3)).alloc (Obj.cells #[.slice (some ⟨gb, 0, none⟩) n c] 24)).alloc (Obj.cells #[.int .i64 PV] 3)).alloc (Obj.cells #[.int .i64 PS] 3)
      simp only [World.size_alloc] at zL
      have zB : Below wr.heap.size wr Z := by
        rw [← hZ]
        have h1 := HB2.out.size
        exact ((((HB2.out.alloc h1 _).alloc (by simp; omega) _).alloc (by simp; omega) _).alloc (by simp; omega) _).alloc (by simp; omega) _
      rw [hZ] at zL ⊢
      have hw2 := HB2.out.size
      clear hZ
      obtain ⟨I, hI⟩ : ∃ I : Nat → World → Prop, I = fun m U => Pic U gb (put q v m zs) tl ∧ Lies [(w2.heap.size + 1, Obj.cells #[.int .i64 PS] 3), (w2.heap.size, Obj.cells #[.int .i64 PV] 3), (w.heap.size + 1, Obj.cells #[.int .i64 f, .int .i64 g, .int .i64 a] 23), (w.heap.size, Obj.cells #[.slice (some ⟨fb, fo, none⟩) n fc] 24)] U ∧ Rd .u8 U (.slice (some ⟨fb, fo, none⟩) n fc) ys ∧ w.grownBy U (some gb) ∧ Olds w.heap.size ds U := ⟨_, rfl⟩
      have hlg : ∀ p ∈ [(w2.heap.size + 1, Obj.cells #[.int .i64 PS] 3), (w2.heap.size, Obj.cells #[.int .i64 PV] 3), (w.heap.size + 1, Obj.cells #[.int .i64 f, .int .i64 g, .int .i64 a] 23), (w.heap.size, Obj.cells #[.slice (some ⟨fb, fo, none⟩) n fc] 24)], gb < p.1 ∧ p.2.isCells = true := by
        intro p hp
        simp only [List.mem_cons, List.not_mem_nil, or_false] at hp
        rcases hp with rfl | rfl | rfl | rfl
        · exact ⟨by simp; omega, rfl⟩
        · exact ⟨by simp; omega, rfl⟩
        · exact ⟨by simp; omega, rfl⟩
        · exact ⟨by simp; omega, rfl⟩
      have hF : ∀ k : Nat, ¬ (fun _ : Nat => False) k := fun _ h => h
      have hdz : ∀ d ∈ ds, d < Z.heap.size := fun d hd => Nat.lt_of_lt_of_le (HOL.out.lt d hd) zB.size
      have hIA : ∀ m, Ab Z.heap.size (fun _ => False) (fun _ U => I m U) := fun m => by
        rw [hI]
        refine (Ab.blk (b := fun _ => gb) (o := fun _ => .cells ((put q v m zs).map (Value.int .u8) ++ tl).toArray 5) (fun _ => rfl) hF).and (Ab.and ?_ ((Ab.rd hF).and ((Ab.grown (by have := zB.size; omega) (fun _ h => h.elim)).and (Olds.ab hdz hF))))
        intro j W W' row hj hg hr p hp
        exact blk_kept (hj p hp) hg (fun e => by
          rcases hr _ e.symm with h | ⟨_, o, h1, h2⟩
          · exact h
          · rw [hj p hp] at h1; cases h1; rw [(hlg p hp).2] at h2; cases h2)
      have hI0 : I 0 Z := by
        rw [hI]
        refine ⟨HPI.out.below zB, (((Lies.nil Z).cons (p := (w.heap.size, _)) zL.tail.tail.tail.tail.tail.tail.head).cons (p := (w.heap.size + 1, _)) zL.tail.tail.tail.tail.tail.head).cons (p := (w2.heap.size, _)) zL.tail.tail.tail.tail.head |>.cons (p := (w2.heap.size + 1, _)) zL.tail.tail.tail.head, HRD.out.below zB, ?_, HOL.out.below zB⟩
        exact ⟨zB.os.trans HGR.out.os, zB.tape.trans HGR.out.tape, zB.output.trans HGR.out.output, Nat.le_trans HGR.out.size zB.size, fun j hj hne => (zB.block j (Nat.lt_of_lt_of_le hj HGR.out.size)).trans (HGR.out.block j hj hne)⟩
      have zLb := zL.tail.tail.head
      have zLa := zL.tail.head
      have zLs := zL.head
      have HI := Lib.hid hI
      have HZS := Lib.hid hzsz
      have HLG := Lib.hid (fun p hp => (hlg p hp).1)
      have HDZ := Lib.hid hdz
      have zsz := zB.size
      clear hI zL zB hzsz hlg hdz
      refine wpIn_name (fun tm htm => ?_)
      have HTM := Lib.hid htm
      clear htm
      dsimp only
      have hev : (Act.mk tm (ds.map mk1)).eval (.tmp 54) = .func (.func 101) #[] #[.pointer (some ⟨w2.heap.size + 1 + 1, 0, none⟩), .pointer (some ⟨w2.heap.size + 1 + 1 + 1, 0, none⟩), .pointer (some ⟨w2.heap.size + 1 + 1 + 1 + 1, 0, none⟩)] := by rw [HTM.out]; rfl
      refine range_outer (gf := 101) (lb := #[.pointer (some ⟨w2.heap.size + 1 + 1, 0, none⟩), .pointer (some ⟨w2.heap.size + 1 + 1 + 1, 0, none⟩), .pointer (some ⟨w2.heap.size + 1 + 1 + 1 + 1, 0, none⟩)]) hev (enters_of Try.func101 (by kernel_rfl) rfl)
        (prow_seq (fun k => k = gb) (fun _ => False) gb 0 n c (w2.heap.size + 1 + 1) (w2.heap.size + 1 + 1 + 1) (w2.heap.size + 1 + 1 + 1 + 1) PV PS Z p0 p1 (by omega) (by omega) p4 hl zLb zLa zLs (by omega) (by omega) (by omega) (fun _ h => h.elim)) (Below.refl _ _) (fun k x hx => by obtain ⟨_, rfl⟩ := prowA_inv hx; rfl) (fun _ h => h.elim)
        (fun k U => I (8 * k) U) (fun c k U => False) (fun k W W' row hj hg hr => hIA _ k W W' row hj hg hr) (fun _ => Ab.never _ _) hI0
        (fun k a' U => a' = { tmps := ((((tm.setIfInBounds 55 (.int .i64 k)).setIfInBounds 56 (.slice (some ⟨gb, (PV + (k : Int) * PS).toNat, none⟩) 8 (c - (PV + (k : Int) * PS).toNat))).setIfInBounds 13 (.int .i64 k)).setIfInBounds 14 (.slice (some ⟨gb, (PV + (k : Int) * PS).toNat, none⟩) 8 (c - (PV + (k : Int) * PS).toNat))), defers := [] } ∧ I (8 * k) U) ?hAft ?assign ?body ?done ?stop
      case hAft =>
        rintro k a' j U U' row ⟨h1, h2⟩ hg hr
        exact ⟨h1, hIA _ k U U' row h2 hg hr⟩
      case stop =>
        rintro c k U _ _ h _
        exact h.elim
      case assign =>
        rintro l' k x U hx hi
        obtain ⟨hk8, rfl⟩ := prowA_inv hx
        unfold prowV
        rw [HTM.out]
        gi_wp2
        exact ⟨KB.refl _ _ _, hi⟩
      case done =>
        rintro U hi hD
        rw [HI.out, prowA_len] at hi
        obtain ⟨hpic, hlies, hrd, hgr, hold⟩ := hi
        have HPU := Lib.hid hpic
        have HLU := Lib.hid hlies
        have HRU := Lib.hid hrd
        have HGU := Lib.hid hgr
        have HOU := Lib.hid hold
        have HD := Lib.hid hD
        clear hpic hlies hrd hgr hold hD
        rw [HTM.out]
        gi_wp2
        refine ⟨⟨k + 1, Z.heap.size :: ds, by omega, by omega, rfl, rfl, rfl, rfl, by go_num, rfl, ?_, ((Lies.nil U).cons (p := (w.heap.size, _)) HLU.out.tail.tail.tail.head).cons (p := (w.heap.size + 1, _)) HLU.out.tail.tail.head, HRU.out, HGU.out, ?_, ?_⟩, ?_⟩
        · rw [Nat.add_sub_cancel, HST.out]; exact HPU.out
        · exact List.nodup_cons.2 ⟨fun h => by have := HDZ.out _ h; omega, HOU.out.1⟩
        · intro d hd
          rcases List.mem_cons.1 hd with rfl | hd
          · exact ⟨by omega, HD.out⟩
          · exact HOU.out.2 d hd
        · simp [intOf]; omega
      case body =>
        rintro l' y x a' U hx hl' hr ⟨rfl, hi⟩
        obtain ⟨hy8, rfl⟩ := prowA_inv hx
        rw [HI.out] at hi
        obtain ⟨hpic, hlies, hrd, hgr, hold⟩ := hi
        have HPI := Lib.hid hpic
        have HLI := Lib.hid hlies
        have HRD := Lib.hid hrd
        have HGR := Lib.hid hgr
        have HOL := Lib.hid hold
        have cA := blk_cell hlies.tail.head 0
        have cB := blk_cell hlies.head 0
        have cF := blk_cell hlies.tail.tail.tail.head 0
        simp only [List.getElem?_toArray, List.getElem?_cons_zero] at cA cB cF
        have hyl : (y : Int) < 8 := by omega
        have hqk := HQ.out (8 * y) (by omega)
        rw [show (((8 * y : Nat) : Int) / 8) = y by omega, show (((8 * y : Nat) : Int) % 8) = 0 by omega, Int.add_zero] at hqk
        have hqt : (PV + (y : Int) * PS).toNat = q (8 * y) := by omega
        rw [hqt]
        have hvs : ((List.range 8).map (fun u => v (8 * y + u))).length = 8 := by simp
        have hm1 : (y : Int) * PS ≤ 7 * PS := Int.mul_le_mul_of_nonneg_right (by omega) (by omega)
        have hm0 : 0 ≤ (y : Int) * PS := Int.mul_nonneg (by omega) (by omega)
        have hqn : q (8 * y) + 8 ≤ n := by omega
        have hqi : ∀ u, u < 8 → q (8 * y + u) = q (8 * y) + u := fun u hu => by
          have h1 := HQ.out (8 * y + u) (by omega)
          rw [show (((8 * y + u : Nat) : Int) / 8) = y by omega, show (((8 * y + u : Nat) : Int) % 8) = u by omega] at h1
          omega
        have hcell : ∀ i : Nat, i < 8 → U.cell? ⟨fb, fo + q (8 * y) + i, none⟩ = some (.int .u8 (((List.range 8).map (fun u => v (8 * y + u)))[i]?.getD 0)) := fun i hi => by
          rcases hrd with ⟨e, _⟩ | ⟨b', o', c', e, _, _, _, hh⟩
          · cases e
          · have hlen := HMM.out
            simp only [Value.slice.injEq, Option.some.injEq, Addr.mk.injEq] at e
            obtain ⟨⟨rfl, rfl, _⟩, _, rfl⟩ := e
            have h := hh (q (8 * y) + i) (by omega)
            rw [← Nat.add_assoc] at h
            rw [h, List.getElem?_map, List.getElem?_range hi, ← HV.out, ← hqi i hi]; rfl
        have hfit : q (8 * y) + 8 ≤ (put q v (8 * y) zs).length := by rw [put_len, HZL.out]; exact hqn
        have hsr := splice_row q v zs (8 * y) 8 hqi (by rw [put_len] at hfit; exact hfit)
        obtain ⟨w4, hr4, hp4, hg4⟩ := run_copyP (ty := 3) (dc := c - q (8 * y)) (sc := fc - q (8 * y)) HPI.out hvs hcell hfit
        rw [hsr] at hp4
        have HP4 := Lib.hid hp4
        have HG4 := Lib.hid hg4
        have hqk' := hqk.symm
        have hq8 : q (8 * y) + 8 ≤ fc := by have := HMM.out; omega
        have hq8n : ((q (8 * y) : Nat) : Int) + 8 ≤ (n : Int) := by omega
        have hqf : q (8 * y) < fc := by omega
        have t8 : (((q (8 * y) : Nat) : Int) + 8).toNat - q (8 * y) = 8 := by omega
        have hq9 : q (8 * y) ≤ (((q (8 * y) : Nat) : Int) + 8).toNat := by omega
        clear hpic hlies hrd hgr hold hx hr hqt hvs hcell hfit hsr hp4 hg4 hqi hqk
        rw [HTM.out]
        gi_wp2
        refine ⟨KB.row HG4.out (fun j e => ?_), ?_⟩
        · cases e
          exact ⟨rfl, _, HPI.out, rfl⟩
        · rw [HI.out]
          have hgz := HZS.out
          refine ⟨HP4.out, fun p hp => blk_kept (HLI.out p hp) HG4.out (fun e => by have h := HLG.out p hp; injection e with e; omega), HRD.out.kept HG4.out.size (fun b hb => HG4.out.block b (HRD.out.block b hb) (by simp only [Value.ownBlock, Option.some.injEq] at hb; simp; omega)), ?_, HOL.out.kept HG4.out (fun d hd e => by have h := (HOL.out.2 d hd).1; injection e with e; omega)⟩
          exact ⟨HG4.out.os.trans HGR.out.os, HG4.out.tape.trans HGR.out.tape, HG4.out.output.trans HGR.out.output, Nat.le_trans HGR.out.size HG4.out.size, fun j hj hne => (HG4.out.block j (Nat.lt_of_lt_of_le hj HGR.out.size) hne).trans (HGR.out.block j hj hne)⟩
    · have e : k = 7 := by omega
      subst e
      gi_wp2
      have hgd : ∀ d ∈ ds, some d ≠ some gb := fun d hd e => by have h := (HOL.out.2 d hd).1; injection e with e; omega
      refine leaves_marks HOL.out HGR.out hgd (fun w' hw' hk => ?_)
      refine ⟨_, by simp [results, Try.results56, go_sem], rfl, ?_, hw'⟩
      have h := HPI.out
      unfold Pic at h ⊢
      rw [hk gb (fun h => hgd gb h rfl)]
      exact h
theorem copy_any (f g a : Int) (gb c : Nat) (xs ys : List Int) (tl : List Value) (u : Value) (w : World) (hp : Pic w gb xs tl) (hs : Rd .u8 w u ys) (hsb : ∀ k, u.ownBlock = some k → k ≠ gb) (hl : xs.length ≤ c) (hx : xs.length ≤ 1000000) (ha : -9223372036854775808 ≤ a) (ha2 : a ≤ 9223372036854775807) :
    Calls Try.prog 56 #[.slice (some ⟨gb, 0, none⟩) xs.length c, u, .agg #[.int .i64 f, .int .i64 g, .int .i64 a]] w fun e w' => e = .returned (.int .i64 (cpE f g a xs.length ys.length)) ∧ Pic w' gb (cpL f g a xs ys) tl ∧ w.grownBy w' (some gb) := by
  by_cases hE : cpE f g a xs.length ys.length = 0
  · rcases cp_cases f g a xs.length ys.length with ⟨hc, e⟩ | ⟨hc, h1, e⟩ | ⟨hc, h1, h2, e⟩ | ⟨hc, h1, h2, _⟩
    · rw [e] at hE; exact absurd hE hc
    · rw [e] at hE; cases hE
    · rw [e] at hE; cases hE
    · rw [hE]
      unfold cpL
      rw [if_pos hE]
      exact copy_ok f g a gb c xs ys tl u w hp hs hsb hl ha ha2 hc h1 h2
  · rw [cpL_none hE]
    exact (copy_bad f g a (some ⟨gb, 0, none⟩) xs.length c u ys w hs (by omega) ha ha2 hE).mono fun e w' ⟨h1, h2⟩ => ⟨h1, hp.below h2, below_grown h2 _⟩
end Go.Proofs.Ytcieggaihelacaa
/- The contract of the document's Copy. -/
set_option linter.unusedSimpArgs false
set_option linter.unusedVariables false
namespace Go.Proofs.Ytcieggaihelacaa
open Go.RowKit
set_option maxRecDepth 100000
theorem cpE_ref (f g a : Int) (n m : Nat) : cpE f g a n m = refE f g a [(n : Int), (m : Int)] := by
  unfold cpE refE
  have e : (∀ x ∈ [(n : Int), (m : Int)], x = bytesS f) ↔ ((n : Int) = bytesS f ∧ (m : Int) = bytesS f) := by simp
  simp only [e]
theorem rd_two (w : World) (x y : Int) : Rd .i64 (w.alloc (.cells #[.int .i64 x, .int .i64 y] 3)) (.slice (some ⟨w.heap.size, 0, none⟩) 2 2) [x, y] := by
  have := Rd.of_owns (xs := [x, y]) (k := .i64) (owns_new (w := w) 3 [.int .i64 x, .int .i64 y] (by simp [maxLen])) (by simp)
  exact this
set_option maxHeartbeats 4000000 in
theorem rcopy_any (f g a : Int) (gb c : Nat) (xs ys : List Int) (tl : List Value) (u : Value) (w : World) (hp : Pic w gb xs tl) (hs : Rd .u8 w u ys) (hsb : ∀ k, u.ownBlock = some k → k ≠ gb) (hl : xs.length ≤ c) (hx : xs.length ≤ 1000000) (ha : -9223372036854775808 ≤ a) (ha2 : a ≤ 9223372036854775807) :
    Calls Try.prog 67 #[.slice (some ⟨gb, 0, none⟩) xs.length c, u, .agg #[.int .i64 f, .int .i64 g, .int .i64 a]] w fun e w' => e = .returned (.int .i64 (cpE f g a xs.length ys.length)) ∧ Pic w' gb (cpL f g a xs ys) tl ∧ w.grownBy w' (some gb) := by
  have hsl := hs.len
  have hsf := hs
  obtain ⟨ua, uc, rfl⟩ := hs.form
  obtain ⟨n, hnn⟩ : ∃ n, xs.length = n := ⟨_, rfl⟩
  obtain ⟨m, hmm⟩ : ∃ m, ys.length = m := ⟨_, rfl⟩
  have HNN := Lib.hid hnn
  have HMM := Lib.hid hmm
  have hgb := hp.lt
  have hB := ((Below.refl w.heap.size w).alloc (Nat.le_refl _) (Obj.cells #[.int .i64 f, .int .i64 g, .int .i64 a] 23)).alloc (by simp) (Obj.cells #[.int .i64 (n : Int), .int .i64 (m : Int)] 3)
  have hL := ((Lies.nil w).alloc (Obj.cells #[.int .i64 f, .int .i64 g, .int .i64 a] 23)).alloc (Obj.cells #[.int .i64 (n : Int), .int .i64 (m : Int)] 3)
  simp only [World.size_alloc] at hL
  have HB := Lib.hid hB
  have HL := Lib.hid hL
  have HP := Lib.hid hp
  have hsb2 : ∀ k, ua.map (·.block) = some k → k ≠ gb := fun k e => hsb k (by cases ua with | none => simp at e | some x => simpa [Value.ownBlock] using e)
  have HSB := Lib.hid hsb
  have hrc := cpE_ref f g a n m
  have hnone : cpE f g a xs.length ys.length ≠ 0 → cpL f g a xs ys = xs := cpL_none
  have hsome : cpE f g a xs.length ys.length = 0 → cpL f g a xs ys = cpN f g a ys 6 xs := fun h => by unfold cpL; rw [if_pos h]
  rw [hnn, hmm] at hnone hsome
  rw [hmm] at hs hsl
  have HS := Lib.hid hs
  rw [hnn] at hl hx
  have hrf := fun W => refuses_any f g a (.slice (some ⟨w.heap.size + 1, 0, none⟩) 2 2) [(n : Int), (m : Int)] W
  rw [← hrc] at hrf
  have HRF := Lib.hid hrf
  rw [hnn, hmm]
  clear hB hL hp hs hsf hsb hsb2 hnn hmm hrf hrc
  have RD1 := Lib.hid (rd_two (w.alloc (Obj.cells #[.int .i64 f, .int .i64 g, .int .i64 a] 23)) (n : Int) (m : Int))
  rcases cp_cases f g a n m with ⟨hc, e⟩ | ⟨hc, h1, e⟩ | ⟨hc, h1, h2, e⟩ | ⟨hc, hn, hm, e⟩
  · have ht : (cpE f g a n m != 0) = true := by rw [e]; simpa using hc
    rw [hnone (by rw [e]; exact hc)]
    clear e hnone hsome hc
    go_enter Try.func67, Try.ntmps67
    go_wp2_with (go_at_call 93; refine (HRF.out _ (by simpa using RD1.out) ha ha2).mono ?_; rintro e w1 ⟨rfl, hb1⟩; have HB1 := Lib.hid (below_nxt HB.out hb1); clear hb1)
    go_ret
    exact ⟨rfl, HP.out.below HB1.out, below_grown HB1.out _⟩
  · rw [hnone (by rw [e]; decide), e]
    rw [e] at HRF
    clear e hnone hsome hc h1
    go_enter Try.func67, Try.ntmps67
    go_wp2_with (go_at_call 93; refine (HRF.out _ (by simpa using RD1.out) ha ha2).mono ?_; rintro e w1 ⟨rfl, hb1⟩; have HB1 := Lib.hid (below_nxt HB.out hb1); clear hb1)
    go_ret
    exact ⟨rfl, HP.out.below HB1.out, below_grown HB1.out _⟩
  · rw [hnone (by rw [e]; decide), e]
    rw [e] at HRF
    clear e hnone hsome hc h1 h2
    go_enter Try.func67, Try.ntmps67
    go_wp2_with (go_at_call 93; refine (HRF.out _ (by simpa using RD1.out) ha ha2).mono ?_; rintro e w1 ⟨rfl, hb1⟩; have HB1 := Lib.hid (below_nxt HB.out hb1); clear hb1)
    go_ret
    exact ⟨rfl, HP.out.below HB1.out, below_grown HB1.out _⟩
  · have hpf : ∀ b : Int, 1 ≤ b ∧ b ≤ 6 → _ := fun b hb => pl_fit (b := b) hc hn hb
    have hQ : ∀ b : Int, 1 ≤ b ∧ b ≤ 6 → ∀ i, i < 64 → (layQ f g a b i : Int) = plcV f (cornerX f g a) (cornerY g a) b + (i : Int) / 8 * plcS f b + (i : Int) % 8 ∧ layQ f g a b i < n := fun b hb i hi => by
      have := layQ_is hc hn hb hi
      rw [fetI_0] at this; exact this
    have hpl : ∀ b : Int, 1 ≤ b ∧ b ≤ 6 → plE f g a b = 0 ∧ plA f g a b = plcV f (cornerX f g a) (cornerY g a) b ∧ plS f g a b = plcS f b := fun b hb => by
      have h : plE f g a b = 0 := by unfold plE; rw [if_pos hc, if_pos hb]
      exact ⟨h, by unfold plA; rw [if_pos h], by unfold plS; rw [if_pos h]⟩
    rw [hsome e, e]
    rw [e] at HRF
    have hmn : m = n := by omega
    have hcp : ∀ j, (cpN f g a ys j xs).length = n := fun j => by rw [cpN_len, HNN.out]
    have hcs : ∀ j : Nat, cpN f g a ys (j + 1) xs = put (layQ f g a ((j : Int) + 1)) (fun i => ys[layQ f g a ((j : Int) + 1) i]?.getD 0) 64 (cpN f g a ys j xs) := fun j => rfl
    have hc0 : cpN f g a ys 0 xs = xs := rfl
    obtain ⟨C, hC⟩ : ∃ C : Nat → List Int, (fun j => cpN f g a ys j xs) = C := ⟨_, rfl⟩
    have hCj : ∀ j, cpN f g a ys j xs = C j := fun j => by rw [← hC]
    simp only [hCj] at hcp hcs hc0 ⊢
    have HCP := Lib.hid hcp
    have HCS := Lib.hid hcs
    have HC0 := Lib.hid hc0
    have HPF := Lib.hid hpf
    have HQQ := Lib.hid hQ
    have HPL := Lib.hid hpl
    clear e hnone hsome hc hn hm hcp hcs hc0 hC hCj hpf hQ hpl
    subst hmn
    go_enter Try.func67, Try.ntmps67
    go_wp2_with (go_at_call 93; refine (HRF.out _ (by simpa using RD1.out) ha ha2).mono ?_; rintro e w1 ⟨rfl, hb1⟩; have HB1 := Lib.hid (below_nxt HB.out hb1); have HL1 := Lib.hid (HL.out.next hb1); clear hb1)
    go_loopw [8, 9, 10, 11, 12, 13] (fun i _ _ _ _ _ wr => ∃ k : Nat, 1 ≤ k ∧ k ≤ 7 ∧ i = .int .i64 k ∧ Pic wr gb (C (k - 1)) tl ∧ wr.heap[w.heap.size]? = some (.cells #[.int .i64 f, .int .i64 g, .int .i64 a] 23 (0, 0)) ∧ w.grownBy wr (some gb)) (fun i _ _ _ _ _ _ => 10 - (intOf i).toNat)
    case atStart => exact ⟨1, by omega, by omega, rfl, by rw [HC0.out]; exact HP.out.below HB1.out, HL1.out.tail.head, below_grown HB1.out _⟩
    case round =>
      obtain ⟨k, hk1, hk7, rfl, hpic, hbox, hgr⟩ := hrel
      have HPI := Lib.hid hpic
      have HBX := Lib.hid hbox
      have HGR := Lib.hid hgr
      by_cases hlt : k ≤ 6
      · have hkl : (k : Int) ≤ 6 := by omega
        have hb16 : (1 : Int) ≤ k ∧ (k : Int) ≤ 6 := by omega
        obtain ⟨p0, p1, p2, p3, p4⟩ := HPF.out k hb16
        have hq0 := HQQ.out k hb16
        obtain ⟨l1, l2, l3⟩ := HPL.out k hb16
        have hst := HCS.out (k - 1)
        rw [show (((k - 1 : Nat) : Int) + 1) = k by omega, show k - 1 + 1 = k by omega] at hst
        have hzl := HCP.out (k - 1)
        obtain ⟨PV, ePV⟩ : ∃ PV, plcV f (cornerX f g a) (cornerY g a) k = PV := ⟨_, rfl⟩
        obtain ⟨PS, ePS⟩ : ∃ PS, plcS f k = PS := ⟨_, rfl⟩
        rw [ePV] at p0 p1 p4 l2
        rw [ePS] at p2 p3 p4 l3
        simp only [ePV, ePS] at hq0
        obtain ⟨q, hq⟩ : ∃ q, layQ f g a k = q := ⟨_, rfl⟩
        rw [hq] at hq0 hst
        obtain ⟨v, hv⟩ : ∃ v : Nat → Int, (fun i => ys[q i]?.getD 0) = v := ⟨_, rfl⟩
        rw [hv] at hst
        obtain ⟨zs, hzs⟩ : ∃ zs, C (k - 1) = zs := ⟨_, rfl⟩
        rw [hzs] at hst hzl HPI
        have HV := Lib.hid hv
        have HQ := Lib.hid hq0
        have HST := Lib.hid hst
        have HZL := Lib.hid hzl
        have HLL := Lib.hid (And.intro l1 (And.intro l2 l3))
        have c0 := blk_cell hbox 0
        have c1 := blk_cell hbox 1
        have c2 := blk_cell hbox 2
        simp only [List.getElem?_toArray, List.getElem?_cons_zero, List.getElem?_cons_succ] at c0 c1 c2
        clear hv hq0 hst hzl l1 l2 l3 ePV ePS hq hzs hpic hbox hgr
        go_wp2_with (go_at_call 49; refine (rPlace_any _ _ _ _ _ ha ha2).mono ?_; rw [HLL.out.1, HLL.out.2.1, HLL.out.2.2]; rintro e w2 ⟨rfl, hb2⟩; have HB2 := Lib.hid hb2; clear hb2)
        clear c0 c1 c2
        go_loopw [12, 13] (fun i _ wr2 => ∃ j : Nat, j ≤ 64 ∧ i = .int .i64 j ∧ Pic wr2 gb (put q v j zs) tl ∧ wr2.heap[w.heap.size]? = some (.cells #[.int .i64 f, .int .i64 g, .int .i64 a] 23 (0, 0)) ∧ w.grownBy wr2 (some gb)) (fun i _ _ => 100 - (intOf i).toNat)
        case atStart => exact ⟨0, by omega, rfl, HPI.out.below HB2.out, (HB2.out.block _ (blk_lt HBX.out)).trans HBX.out, ⟨HB2.out.os.trans HGR.out.os, HB2.out.tape.trans HGR.out.tape, HB2.out.output.trans HGR.out.output, Nat.le_trans HGR.out.size HB2.out.size, fun i hi hne => (HB2.out.block i (Nat.lt_of_lt_of_le hi HGR.out.size)).trans (HGR.out.block i hi hne)⟩⟩
        case round =>
          rename_i wr2
          obtain ⟨j, hj, rfl, hpic2, hbox2, hgr2⟩ := hrel
          have HP2 := Lib.hid hpic2
          have HX2 := Lib.hid hbox2
          have HG2 := Lib.hid hgr2
          clear hpic2 hbox2 hgr2
          by_cases hltj : j < 64
          · have hjl : (j : Int) < 64 := by omega
            obtain ⟨hq1, hq2⟩ := HQ.out j hltj
            have hrs := HS.out.kept HG2.out.size (fun b hb => HG2.out.block b (HS.out.block b hb) (fun e => by cases e; exact HSB.out _ (by rw [HMM.out]; exact hb) rfl))
            obtain ⟨b0, o0, rfl, hle0, hc0⟩ := hrs.at' hq2
            have hvk : ys[q j]?.getD 0 = v j := by rw [← HV.out]
            rw [hvk] at hc0
            have hcq := HP2.out.cell (i := q j) (by rw [put_len, HZL.out]; exact hq2)
            have hfq := HP2.out.free (q j)
            generalize (put q v j zs)[q j]?.getD 0 = old at hcq
            have hm0 : 0 ≤ (j : Int) / 8 * PS := Int.mul_nonneg (by omega) (by omega)
            have hm1 : (j : Int) / 8 * PS ≤ 7 * PS := Int.mul_le_mul_of_nonneg_right (by omega) (by omega)
            have hq1' := hq1.symm
            clear hq1 hrs hvk
            go_wp2
            go_roundw
            case rel => exact ⟨j + 1, by omega, by go_num, HP2.out.set (by rw [put_len, HZL.out]; exact hq2) _, blk_kept HX2.out (grown_set _ _ _) (by simp; omega), HG2.out.trans (grown_set _ ⟨gb, q j, none⟩ _)⟩
            case measure => simp [intOf]; omega
          · have e : j = 64 := by omega
            subst e
            go_wp2
            go_roundw
            case rel => exact ⟨k + 1, by omega, by omega, by go_num, by rw [Nat.add_sub_cancel, HST.out]; exact HP2.out, HX2.out, HG2.out⟩
            case measure => simp [intOf]; omega
      · have e : k = 7 := by omega
        subst e
        clear hpic hbox hgr
        go_wp2
        go_ret
        exact ⟨rfl, HPI.out, HGR.out⟩
end Go.Proofs.Ytcieggaihelacaa
/- Layer 16's statements' own helpers: 64 times a number; what samples and residues come to; some of the chapter's examples. -/
set_option linter.unusedSimpArgs false
set_option linter.unusedVariables false
namespace Go.Proofs.Ytcieggaihelacaa
open Go.RowKit
set_option maxRecDepth 100000
theorem rep_stepx (x : Int) (n k : Nat) (hk : k < n) : (List.replicate k x ++ List.replicate (n - k) 0).set k x = List.replicate (k + 1) x ++ List.replicate (n - (k + 1)) 0 := by
  rw [List.set_append_right _ _ (by simp), List.length_replicate, Nat.sub_self, show n - k = (n - (k + 1)) + 1 by omega, List.replicate_succ, List.set_cons_zero, List.replicate_succ']
  simp
theorem same64_any (x : Int) (w : World) :
    Calls Try.prog 71 #[.int .u8 x] w fun e w' => (∃ g, e = .returned (.slice (some ⟨g, 0, none⟩) 64 64) ∧ w.heap.size ≤ g ∧ Pic w' g (List.replicate 64 x) []) ∧ Below w.heap.size w w' := by
  have hmk := make64
  have HZ := Lib.hid (pic_zero w 64)
  have HB := Lib.hid ((Below.refl w.heap.size w).alloc (Nat.le_refl _) (.cells (madeCells #[Value.int .u8 0] 64) 5))
  go_enter Try.func71, Try.ntmps71
  go_wp2
  go_loopw [4] (fun i wr => ∃ k : Nat, k ≤ 64 ∧ i = .int .i64 k ∧ Below w.heap.size w wr ∧ Pic wr w.heap.size (List.replicate k x ++ List.replicate (64 - k) 0) []) (fun i _ => 64 - (intOf i).toNat)
  case atStart => exact ⟨0, by omega, rfl, HB.out, by simpa using HZ.out⟩
  case round =>
    obtain ⟨k, hk, rfl, hb, hp⟩ := hrel
    have HP := Lib.hid hp
    have HBB := Lib.hid hb
    clear hp hb
    by_cases hlt : k < 64
    · have hkn : (k : Int) < 64 := by omega
      have hc := HP.out.cell (i := k) (by simp; omega)
      have hf := HP.out.free k
      generalize (List.replicate k x ++ List.replicate (64 - k) 0)[k]?.getD 0 = u at hc
      go_wp2
      go_roundw
      case rel => exact ⟨k + 1, by omega, by go_num, HBB.out.setCell (Nat.le_refl _) _, by rw [← rep_stepx x 64 k hlt]; exact HP.out.set (by simp; omega) _⟩
      case measure => simp [intOf]; omega
    · have e : k = 64 := by omega
      subst e
      go_wp2
      go_ret
      have hp := HP.out
      rw [Nat.sub_self, List.replicate_zero, List.append_nil] at hp
      exact ⟨⟨_, rfl, Nat.le_refl _, hp⟩, HBB.out⟩
/-- A block of numbers. -/
def PicI (w : World) (g : Nat) (xs : List Int) : Prop := w.heap[g]? = some (.cells (xs.map (Value.int .i64)).toArray 3 (0, 0))
theorem PicI.cell {w : World} {g : Nat} {xs : List Int} (h : PicI w g xs) {i : Nat} (hi : i < xs.length) : w.cell? ⟨g, i, none⟩ = some (.int .i64 (xs[i]?.getD 0)) := by
  rw [blk_cell h, List.getElem?_toArray, List.getElem?_map]
  simp [hi]
theorem PicI.set {w : World} {g : Nat} {xs : List Int} (h : PicI w g xs) (i : Nat) (y : Int) : PicI (w.setCell ⟨g, i, none⟩ (.int .i64 y)) g (xs.set i y) := by
  have := blk_set h i (.int .i64 y)
  unfold PicI
  rw [this, List.setIfInBounds_toArray, List.map_set]
theorem PicI.rd {w : World} {g : Nat} {xs : List Int} (h : PicI w g xs) (hl : xs.length ≤ 140737488351232) : Rd .i64 w (.slice (some ⟨g, 0, none⟩) xs.length xs.length) xs :=
  Or.inr ⟨g, 0, xs.length, rfl, blk_lt h, Nat.le_refl _, hl, fun i hi => by rw [Nat.zero_add]; exact h.cell hi⟩
theorem make64i (W : World) : (Instr.makeSlice 46 (.int .i64 64) (.int .i64 64)).run Try.prog W = .ok (.slice (some ⟨W.heap.size, 0, none⟩) 64 64) (W.alloc (.cells (madeCells #[Value.int .i64 0] 64) 3)) :=
  run_make_row' (P := Try.prog) 46 3 (.int .i64 0) 8 Try.underlying46 (by kernel_rfl) rfl .i64 .i64 64 (by decide) (by decide) W
theorem picI_zero (w : World) (n : Nat) : PicI (w.alloc (.cells (madeCells #[Value.int .i64 0] n) 3)) w.heap.size (List.replicate n 0) := by
  unfold PicI
  rw [World.alloc_heap_new, List.map_replicate, ← toList_madeCells_one]
theorem ints64_any (x : Int) (w : World) :
    Calls Try.prog 72 #[.int .i64 x] w fun e w' => (∃ g, e = .returned (.slice (some ⟨g, 0, none⟩) 64 64) ∧ w.heap.size ≤ g ∧ PicI w' g (List.replicate 64 x)) ∧ Below w.heap.size w w' := by
  have hmk := make64i
  have HZ := Lib.hid (picI_zero w 64)
  have HB := Lib.hid ((Below.refl w.heap.size w).alloc (Nat.le_refl _) (.cells (madeCells #[Value.int .i64 0] 64) 3))
  go_enter Try.func72, Try.ntmps72
  go_wp2
  go_loopw [4] (fun i wr => ∃ k : Nat, k ≤ 64 ∧ i = .int .i64 k ∧ Below w.heap.size w wr ∧ PicI wr w.heap.size (List.replicate k x ++ List.replicate (64 - k) 0)) (fun i _ => 64 - (intOf i).toNat)
  case atStart => exact ⟨0, by omega, rfl, HB.out, by simpa using HZ.out⟩
  case round =>
    obtain ⟨k, hk, rfl, hb, hp⟩ := hrel
    have HP := Lib.hid hp
    have HBB := Lib.hid hb
    clear hp hb
    by_cases hlt : k < 64
    · have hkn : (k : Int) < 64 := by omega
      have hc := HP.out.cell (i := k) (by simp; omega)
      have hf := blk_free HP.out k
      generalize (List.replicate k x ++ List.replicate (64 - k) 0)[k]?.getD 0 = u at hc
      go_wp2
      go_roundw
      case rel => exact ⟨k + 1, by omega, by go_num, HBB.out.setCell (Nat.le_refl _) _, by rw [← rep_stepx x 64 k hlt]; exact HP.out.set _ _⟩
      case measure => simp [intOf]; omega
    · have e : k = 64 := by omega
      subst e
      go_wp2
      go_ret
      have hp := HP.out
      rw [Nat.sub_self, List.replicate_zero, List.append_nil] at hp
      exact ⟨⟨_, rfl, Nat.le_refl _, hp⟩, HBB.out⟩
theorem rep_byt {x : Int} (h : 0 ≤ x ∧ x ≤ 255) (n : Nat) : byt (List.replicate n x) := fun y hy => by rw [List.eq_of_mem_replicate hy]; exact h
theorem rep_small {x : Int} (h : -1048576 ≤ x ∧ x ≤ 1048576) (n : Nat) : small (List.replicate n x) := fun y hy => by rw [List.eq_of_mem_replicate hy]; exact h
theorem addZ_rep (x y : Int) (n : Nat) : addZ (List.replicate n x) (List.replicate n y) = List.replicate n (clipS (x + y)) := by
  unfold addZ; rw [List.zipWith_replicate]; simp
theorem add_rep {x y : Int} (hy : -1048576 ≤ y ∧ y ≤ 1048576) : addE (List.replicate 64 x).length (List.replicate 64 y) = 0 ∧ addL (List.replicate 64 x) (List.replicate 64 y) = List.replicate 64 (clipS (x + y)) := by
  have h : addE (List.replicate 64 x).length (List.replicate 64 y) = 0 := by
    unfold addE; rw [if_pos (by simp), if_pos (rep_small hy 64)]
  exact ⟨h, by unfold addL; rw [if_pos h, addZ_rep]⟩
theorem adds_true (s r x : Int) (w : World) (hs : 0 ≤ s ∧ s ≤ 255) (hr : -1048576 ≤ r ∧ r ≤ 1048576) (hx : clipS (s + r) = x) :
    Calls Try.prog 88 #[.int .u8 s, .int .i64 r, .int .u8 x] w fun e w' => e = .returned (.bool true) ∧ Below w.heap.size w w' := by
  obtain ⟨h1, h2⟩ := add_rep (x := s) hr
  rw [hx] at h2
  have HA := Lib.hid (And.intro h1 h2)
  have HBS := Lib.hid (rep_byt hs 64)
  clear h1 h2 hx
  go_enter Try.func88, Try.ntmps88
  go_wp2_with (first
    | (go_at_call 25; refine (sameBytes_true _ _ (List.replicate 64 x) _ (HRB.out.below hb4) (by have h := hp4.rd (c := 64) (by simp) (by simp); rw [List.length_replicate] at h; exact h)).mono ?_; rintro e w' ⟨rfl, rfl⟩)
    | (go_at_call 58; refine (add_any _ _ (List.replicate 64 s) (List.replicate 64 r) _ (HR1.out.below hb2) HBS.out (by have h := hp2.rd (by simp); rw [List.length_replicate] at h; exact h)).mono ?_; rw [HA.out.1, HA.out.2, List.length_replicate]; rintro e w3 ⟨⟨u, rfl, hu⟩, hb3⟩; have hru := Rd.of_owns (xs := List.replicate 64 x) (by rw [List.length_replicate]; exact hu) (by simp); obtain ⟨ua, uc, rfl⟩ := hru.form; rw [List.length_replicate] at hru ⊢; have HRB := Lib.hid hru; have HB3 := Lib.hid (below_nxt HB2.out hb3); clear hu hru hb3)
    | (go_at_call 72; refine (ints64_any r _).mono ?_; rintro e w2 ⟨⟨g2, rfl, hg2, hp2⟩, hb2⟩; have HB2 := Lib.hid (below_nxt HB1.out hb2))
    | (go_at_call 71; (with_reducible refine (same64_any s w).mono ?_); rintro e w1 ⟨⟨g1, rfl, hg1, hp1⟩, hb1⟩; have hr1 := hp1.rd (c := 64) (by simp) (by simp); rw [List.length_replicate] at hr1; have HR1 := Lib.hid hr1; have HB1 := Lib.hid hb1; clear hp1 hr1 hb1)
    | (go_at_call 71; refine (same64_any x _).mono ?_; rintro e w4 ⟨⟨g4, rfl, hg4, hp4⟩, hb4⟩; have HB4 := Lib.hid (below_nxt HB3.out hb4)))
  go_ret
  exact ⟨rfl, HB4.out⟩
end Go.Proofs.Ytcieggaihelacaa
