/- The program's Lay where nothing is refused. -/
import Derived.Test.YtcieggaihelacaaPf
set_option linter.unusedSimpArgs false
set_option linter.unusedVariables false
namespace Go.Proofs.Ytcieggaihelacaa
open Go.RowKit Go.Shelf
set_option maxRecDepth 100000
attribute [local go_sem] Oper.semAt_some
theorem pl_fit {f g a b : Int} {n : Nat} (hc : cornE f g a = 0) (hl : (n : Int) = bytesS f) (hb : 1 ≤ b ∧ b ≤ 6) : 0 ≤ plcV f (cornerX f g a) (cornerY g a) b ∧ plcV f (cornerX f g a) (cornerY g a) b ≤ 1000000 ∧ 8 ≤ plcS f b ∧ plcS f b ≤ 352 ∧ plcV f (cornerX f g a) (cornerY g a) b + 7 * plcS f b + 8 ≤ n := by
  have h1 := pl_bounds hc hb
  have h2 := (layQ_is hc hl hb (i := 63) (by decide))
  rw [fetI_0, show ((63 : Nat) : Int) / 8 = 7 by decide, show ((63 : Nat) : Int) % 8 = 7 by decide] at h2
  have h3 := plcS_is' (b := b) (corn_ok hc).1
  omega
set_option maxHeartbeats 4000000 in
theorem lay_ok (f g a b : Int) (gb c : Nat) (xs ss : List Int) (tl : List Value) (u : Value) (w : World) (hp : Pic w gb xs tl) (hs : Rd .u8 w u ss) (hsb : ∀ k, u.ownBlock = some k → k ≠ gb) (hl : xs.length ≤ c) (ha : -9223372036854775808 ≤ a) (ha2 : a ≤ 9223372036854775807)
    (hc : cornE f g a = 0) (hn : (xs.length : Int) = bytesS f) (hm : ss.length = 64) (hb : 1 ≤ b ∧ b ≤ 6) (hpl : plE f g a b = 0) :
    Calls Try.prog 65 #[.slice (some ⟨gb, 0, none⟩) xs.length c, .agg #[.int .i64 f, .int .i64 g, .int .i64 a], .int .i64 b, u] w fun e w' => e = .returned (.int .i64 0) ∧ Pic w' gb (put (layQ f g a b) (fun i => ss[i]?.getD 0) 64 xs) tl ∧ w.grownBy w' (some gb) := by
  refine (callsIn_wide (n := 0)).1 ?_
  have hwf : ∀ f, Fence.wide.fn f := fun _ => trivial
  have hwd : Fence.wide.depth = none := rfl
  obtain ⟨sb, so, sc, rfl, hsl, hsc, hsh⟩ := hs.solid (by omega)
  have hpf := pl_fit hc hn hb
  have hQ : ∀ i, i < 64 → (layQ f g a b i : Int) = plcV f (cornerX f g a) (cornerY g a) b + (i : Int) / 8 * plcS f b + (i : Int) % 8 := fun i hi => by
    rw [(layQ_is hc hn hb hi).1, fetI_0]
  have hplA : plA f g a b = plcV f (cornerX f g a) (cornerY g a) b := by unfold plA; rw [if_pos hpl]
  have hplS : plS f g a b = plcS f b := by unfold plS; rw [if_pos hpl]
  obtain ⟨PV, ePV⟩ : ∃ PV, plcV f (cornerX f g a) (cornerY g a) b = PV := ⟨_, rfl⟩
  obtain ⟨PS, ePS⟩ : ∃ PS, plcS f b = PS := ⟨_, rfl⟩
  rw [ePV, ePS] at hpf
  simp only [ePV, ePS] at hQ
  rw [ePV] at hplA
  rw [ePS] at hplS
  obtain ⟨n, hnn⟩ : ∃ n, xs.length = n := ⟨_, rfl⟩
  obtain ⟨p0, p1, p2, p3, p4⟩ := hpf
  rw [hnn] at p4 hl
  have ht : ((n : Int) != bytesS f) = false := by rw [← hnn]; simpa using hn
  have HPL := Lib.hid (And.intro hplA (And.intro hplS hpl))
  have HQ := Lib.hid hQ
  have HNN := Lib.hid hnn
  have HM := Lib.hid hm
  have HP := Lib.hid hp
  have HS := Lib.hid hs
  have hsb' : sb ≠ gb := hsb sb rfl
  have hB := ((Below.refl w.heap.size w).alloc (Nat.le_refl _) (Obj.cells #[.int .i64 f, .int .i64 g, .int .i64 a] 23)).alloc (by simp) (Obj.cells #[.slice (some ⟨sb, so, none⟩) ss.length sc] 24)
  have hL := ((Lies.nil w).alloc (Obj.cells #[.int .i64 f, .int .i64 g, .int .i64 a] 23)).alloc (Obj.cells #[.slice (some ⟨sb, so, none⟩) ss.length sc] 24)
  simp only [World.size_alloc] at hL
  rw [hm] at hB hL hsc ⊢
  rw [hnn]
  have HB := Lib.hid hB
  have HL := Lib.hid hL
  have hpc := pcorner_any f g a
  rw [if_pos hc, hc] at hpc
  have HPC := Lib.hid hpc
  have hgb := hp.lt
  obtain ⟨q, hq⟩ : ∃ q, layQ f g a b = q := ⟨_, rfl⟩
  obtain ⟨v, hv⟩ : ∃ v : Nat → Int, (fun i => ss[i]?.getD 0) = v := ⟨_, rfl⟩
  rw [hq] at HQ
  rw [hq, hv]
  have HV := Lib.hid hv
  clear hq hv
  clear hB hL hpc hc hn hb hplA hplS hpl hQ hnn hm hp hs hsh ePV ePS hsb
  (refine callsIn_of_wp_marks Try.func65 rfl trivial ?_ rfl; simp only [Try.ntmps65, List.size_toArray, List.length_cons, List.length_nil, Nat.reduceAdd, Nat.reduceSub, Array.replicate_succ, Array.replicate_zero, List.push_toArray, List.append_toArray, List.nil_append, List.cons_append])
  gi_wp2_with (first
    | (gi_at_call 89; refine (callsIn_wide.2 (HPC.out _ ha ha2)).mono ?_; rintro e w1 ⟨rfl, hb1⟩; have HB1 := Lib.hid (below_nxt HB.out hb1); have HL1 := Lib.hid (HL.out.next hb1); have cs := blk_cell HL1.out.head 0; have k0 := HL1.out.tail.head; have c0 := blk_cell k0 0; have c1 := blk_cell k0 1; have c2 := blk_cell k0 2; simp only [List.getElem?_toArray, List.getElem?_cons_zero, List.getElem?_cons_succ] at cs c0 c1 c2; clear hb1 k0)
    | (gi_at_call 48; refine (callsIn_wide.2 (place_any _ _ _ _ _ ha ha2)).mono ?_; rw [HPL.out.1, HPL.out.2.1, HPL.out.2.2]; rintro e w2 ⟨rfl, hb2⟩; have HB2 := Lib.hid (below_nxt HB1.out hb2); have HL2 := Lib.hid (HL1.out.next hb2); clear hb2)
    | (gi_at_call 90; refine (callsIn_wide.2 (prows_any _ _ _ _ _ _)).mono ?_; rintro e w3 ⟨rfl, rfl⟩))
  clear cs c0 c1 c2
  obtain ⟨Z, hZ⟩ : ∃ Z, ((w2.alloc (Obj.cells #[.slice (some ⟨gb, 0, none⟩) n c] 24)).alloc (Obj.cells #[.int .i64 PV] 3)).alloc (Obj.cells #[.int .i64 PS] 3) = Z := ⟨_, rfl⟩
  have zs : Z.heap.size = w2.heap.size + 1 + 1 + 1 := by rw [← hZ]; simp
  have zL := ((HL2.out.alloc (Obj.cells #[.slice (some ⟨gb, 0, none⟩) n c] 24)).alloc (Obj.cells #[.int .i64 PV] 3)).alloc (Obj.cells #[.int .i64 PS] 3)
  simp only [World.size_alloc] at zL
  have zB : Below w.heap.size w Z := by rw [← hZ]; exact ((HB2.out.alloc HB2.out.size _).alloc (by have := HB2.out.size; simp; omega) _).alloc (by have := HB2.out.size; simp; omega) _
  rw [hZ] at zL ⊢
  have hw2 := HB2.out.size
  clear hZ
  obtain ⟨I, hI⟩ : ∃ I : Nat → World → Prop, I = fun m U => Pic U gb (put q v m xs) tl ∧ U.heap[w.heap.size + 1]? = some (.cells #[.slice (some ⟨sb, so, none⟩) 64 sc] 24 (0, 0)) ∧ Rd .u8 U (.slice (some ⟨sb, so, none⟩) ss.length sc) ss ∧ w.grownBy U (some gb) := ⟨_, rfl⟩
  have hF : ∀ k : Nat, ¬ (fun _ : Nat => False) k := fun _ h => h
  have hIA : ∀ m, Ab Z.heap.size (fun _ => False) (fun _ U => I m U) := fun m => by
    rw [hI]
    exact (Ab.blk (b := fun _ => gb) (o := fun _ => .cells ((put q v m xs).map (Value.int .u8) ++ tl).toArray 5) (fun _ => rfl) hF).and ((Ab.blk (b := fun _ => w.heap.size + 1) (o := fun _ => .cells #[.slice (some ⟨sb, so, none⟩) 64 sc] 24) (fun _ => rfl) hF).and ((Ab.rd hF).and (Ab.grown zB.size (fun _ h => h.elim))))
  have hI0 : I 0 Z := by
    rw [hI]
    exact ⟨HP.out.below zB, zL.tail.tail.tail.head, HS.out.below zB, below_grown zB _⟩
  have zLb := zL.tail.tail.head
  have zLa := zL.tail.head
  have zLs := zL.head
  have HI := Lib.hid hI
  have HZS := Lib.hid zs
  have zsz := zB.size
  clear hI zL zB zs
  refine wpIn_name (fun tm htm => ?_)
  have HTM := Lib.hid htm
  clear htm
  dsimp only
  have hev : (Act.mk tm []).eval (.tmp 52) = .func (.func 101) #[] #[.pointer (some ⟨w2.heap.size, 0, none⟩), .pointer (some ⟨w2.heap.size + 1, 0, none⟩), .pointer (some ⟨w2.heap.size + 1 + 1, 0, none⟩)] := by rw [HTM.out]; rfl
  refine range_outer (gf := 101) (lb := #[.pointer (some ⟨w2.heap.size, 0, none⟩), .pointer (some ⟨w2.heap.size + 1, 0, none⟩), .pointer (some ⟨w2.heap.size + 1 + 1, 0, none⟩)]) hev (enters_of Try.func101 (by kernel_rfl) rfl)
    (prow_seq (fun k => k = gb) (fun _ => False) gb 0 n c w2.heap.size (w2.heap.size + 1) (w2.heap.size + 1 + 1) PV PS Z p0 p1 (by omega) (by omega) p4 hl zLb zLa zLs (by omega) (by omega) (by omega) (fun _ h => h.elim)) (Below.refl _ _) (fun k x hx => by obtain ⟨_, rfl⟩ := prowA_inv hx; rfl) (fun _ h => h.elim)
    (fun k U => I (8 * k) U) (fun c k U => False) (fun k W W' row hj hg hr => hIA _ k W W' row hj hg hr) (fun _ => Ab.never _ _) hI0
    (fun k a' U => a' = { tmps := ((((tm.setIfInBounds 53 (.int .i64 k)).setIfInBounds 54 (.slice (some ⟨gb, (PV + (k : Int) * PS).toNat, none⟩) 8 (c - (PV + (k : Int) * PS).toNat))).setIfInBounds 13 (.int .i64 k)).setIfInBounds 14 (.slice (some ⟨gb, (PV + (k : Int) * PS).toNat, none⟩) 8 (c - (PV + (k : Int) * PS).toNat))), defers := [] } ∧ I (8 * k) U) ?hAft ?assign ?body ?done ?stop
  case hAft =>
    rintro k a' j U U' row ⟨h1, h2⟩ hg hr
    exact ⟨h1, hIA _ k U U' row h2 hg hr⟩
  case stop =>
    rintro c k U _ _ h _
    exact h.elim
  case assign =>
    rintro l' k x U hx hi
    obtain ⟨hk8, rfl⟩ := prowA_inv hx
    unfold prowV
    rw [HTM.out]
    gi_wp2
    exact ⟨KB.refl _ _ _, hi⟩
  case done =>
    rintro U hi hD
    rw [HI.out, prowA_len] at hi
    obtain ⟨hpic, hbox, hrd, hgr⟩ := hi
    have HPI := Lib.hid hpic
    have HGR := Lib.hid hgr
    have HD := Lib.hid hD
    have hzw : w2.heap.size + 3 = Z.heap.size := by have := HZS.out; omega
    have HZW := Lib.hid hzw
    clear hzw
    clear hpic hbox hrd hgr hD
    rw [HTM.out]
    gi_wp2
    refine ⟨by simp, .inl ⟨_, _, rfl, run_takeDeferred HD.out, ?_⟩⟩
    have hp := grownBy_putObj' U Z.heap.size (.deferred none)
    refine ⟨_, by simp [results, Try.results65, go_sem], rfl, HPI.out.kept hp (by have := HZW.out; simp; omega), ?_⟩
    exact ⟨hp.os.trans HGR.out.os, hp.tape.trans HGR.out.tape, hp.output.trans HGR.out.output, Nat.le_trans HGR.out.size hp.size, fun k hk hne => (hp.block k (Nat.lt_of_lt_of_le hk HGR.out.size) (by have := HZW.out; simp; omega)).trans (HGR.out.block k hk hne)⟩
  case body =>
    rintro l' k x a' U hx hl' hr ⟨rfl, hi⟩
    obtain ⟨hk8, rfl⟩ := prowA_inv hx
    rw [HI.out] at hi
    obtain ⟨hpic, hbox, hrd, hgr⟩ := hi
    have HPI := Lib.hid hpic
    have HBX := Lib.hid hbox
    have HRD := Lib.hid hrd
    have HGR := Lib.hid hgr
    have cs := blk_cell hbox 0
    simp only [List.getElem?_toArray, List.getElem?_cons_zero] at cs
    have hkl : (k : Int) < 8 := by omega
    have hqk := HQ.out (8 * k) (by omega)
    rw [show (((8 * k : Nat) : Int) / 8) = k by omega, show (((8 * k : Nat) : Int) % 8) = 0 by omega, Int.add_zero] at hqk
    have hqt : (PV + (k : Int) * PS).toNat = q (8 * k) := by omega
    rw [hqt]
    have hvs : ((List.range 8).map (fun u => v (8 * k + u))).length = 8 := by simp
    have hcell : ∀ i : Nat, i < 8 → U.cell? ⟨sb, so + 8 * k + i, none⟩ = some (.int .u8 (((List.range 8).map (fun u => v (8 * k + u)))[i]?.getD 0)) := fun i hi => by
      rcases hrd with ⟨e, _⟩ | ⟨b', o', c', e, _, _, _, hh⟩
      · cases e
      · cases e
        have h := hh (8 * k + i) (by rw [HM.out]; omega)
        rw [← Nat.add_assoc] at h
        rw [h, List.getElem?_map, List.getElem?_range hi, ← HV.out]; rfl
    have hfit : q (8 * k) + 8 ≤ (put q v (8 * k) xs).length := by
      have h63 := HQ.out (8 * k + 7) (by omega)
      rw [put_len, HNN.out]
      have hm1 : (k : Int) * PS ≤ 7 * PS := Int.mul_le_mul_of_nonneg_right (by omega) (by omega)
      omega
    have hsr := splice_row q v xs (8 * k) 8 (fun u hu => by
      have h1 := HQ.out (8 * k + u) (by omega)
      rw [show (((8 * k + u : Nat) : Int) / 8) = k by omega, show (((8 * k + u : Nat) : Int) % 8) = u by omega] at h1
      omega) (by rw [put_len] at hfit; exact hfit)
    obtain ⟨w4, hr4, hp4, hg4⟩ := run_copyP (ty := 3) (dc := c - q (8 * k)) (sc := sc - 8 * k) HPI.out hvs hcell hfit
    rw [hsr] at hp4
    have HP4 := Lib.hid hp4
    have HG4 := Lib.hid hg4
    clear hpic hbox hrd hgr hx hr hqt hvs hcell hfit hsr hp4 hg4
    rw [HTM.out]
    gi_wp2
    refine ⟨KB.row HG4.out (fun j e => ?_), ?_⟩
    · cases e
      exact ⟨rfl, _, HPI.out, rfl⟩
    · rw [HI.out]
      have hgz := HZS.out
      refine ⟨HP4.out, blk_kept HBX.out HG4.out (by simp; omega), HRD.out.kept HG4.out.size (fun b hb => HG4.out.block b (HRD.out.block b hb) (by simp only [Value.ownBlock, Option.some.injEq] at hb; simp; omega)), ?_⟩
      exact ⟨HG4.out.os.trans HGR.out.os, HG4.out.tape.trans HGR.out.tape, HG4.out.output.trans HGR.out.output, Nat.le_trans HGR.out.size HG4.out.size, fun j hj hne => (HG4.out.block j (Nat.lt_of_lt_of_le hj HGR.out.size) hne).trans (HGR.out.block j hj hne)⟩
theorem lay_any (f g a b : Int) (gb c : Nat) (xs ss : List Int) (tl : List Value) (u : Value) (w : World) (hp : Pic w gb xs tl) (hs : Rd .u8 w u ss) (hsb : ∀ k, u.ownBlock = some k → k ≠ gb) (hl : xs.length ≤ c) (hx : xs.length ≤ 1000000) (ha : -9223372036854775808 ≤ a) (ha2 : a ≤ 9223372036854775807) :
    Calls Try.prog 65 #[.slice (some ⟨gb, 0, none⟩) xs.length c, .agg #[.int .i64 f, .int .i64 g, .int .i64 a], .int .i64 b, u] w fun e w' => e = .returned (.int .i64 (layE f g a xs.length ss.length b)) ∧ Pic w' gb (layL f g a b xs ss) tl ∧ w.grownBy w' (some gb) := by
  by_cases hE : layE f g a xs.length ss.length b = 0
  · rcases lay_cases f g a b xs.length ss.length with ⟨hc, e⟩ | ⟨hc, h1, e⟩ | ⟨hc, h1, h2, e⟩ | ⟨hc, h1, h2, h3, hp', e⟩ | ⟨hc, h1, h2, h3, h4, _⟩
    · rw [e] at hE; exact absurd hE hc
    · rw [e] at hE; cases hE
    · rw [e] at hE; cases hE
    · rw [e] at hE; cases hE
    · rw [hE]
      unfold layL
      rw [if_pos hE]
      exact lay_ok f g a b gb c xs ss tl u w hp hs hsb hl ha ha2 hc h1 h2 h3 h4
  · rw [layL_none hE]
    exact (lay_bad f g a b gb xs.length c u ss w hs (by omega) ha ha2 hE).mono fun e w' ⟨h1, h2⟩ => ⟨h1, hp.below h2, below_grown h2 _⟩
end Go.Proofs.Ytcieggaihelacaa
