/- The program's Lay where nothing is refused. -/
import Derived.Test.YtcieggaihelacaaBti
import Derived.Lib.MakeNoZero
set_option linter.unusedSimpArgs false
set_option linter.unusedVariables false
namespace Go.Proofs.Ytcieggaihelacaa
open Go.RowKit Go.Shelf
set_option maxRecDepth 100000
attribute [local go_sem] Oper.semAt_some
theorem pl_fit {f g a b : Int} {n : Nat} (hc : cornE f g a = 0) (hl : (n : Int) = bytesS f) (hb : 1 ≤ b ∧ b ≤ 6) : 0 ≤ plcV f (cornerX f g a) (cornerY g a) b ∧ plcV f (cornerX f g a) (cornerY g a) b ≤ 1000000 ∧ 8 ≤ plcS f b ∧ plcS f b ≤ 352 ∧ plcV f (cornerX f g a) (cornerY g a) b + 7 * plcS f b + 8 ≤ n := by
  have h1 := pl_bounds hc hb
  have h2 := (layQ_is hc hl hb (i := 63) (by decide))
  rw [fetI_0, show ((63 : Nat) : Int) / 8 = 7 by decide, show ((63 : Nat) : Int) % 8 = 7 by decide] at h2
  have h3 := plcS_is' (b := b) (corn_ok hc).1
  omega
set_option maxHeartbeats 4000000 in
theorem lay_ok (f g a b : Int) (gb c : Nat) (xs ss : List Int) (tl : List Value) (u : Value) (w : World) (hp : Pic w gb xs tl) (hs : Rd .u8 w u ss) (hsb : ∀ k, u.ownBlock = some k → k ≠ gb) (hl : xs.length ≤ c) (ha : -9223372036854775808 ≤ a) (ha2 : a ≤ 9223372036854775807)
    (hc : cornE f g a = 0) (hn : (xs.length : Int) = bytesS f) (hm : ss.length = 64) (hb : 1 ≤ b ∧ b ≤ 6) (hpl : plE f g a b = 0) :
    Calls Try.prog 65 #[.slice (some ⟨gb, 0, none⟩) xs.length c, .agg #[.int .i64 f, .int .i64 g, .int .i64 a], .int .i64 b, u] w fun e w' => e = .returned (.int .i64 0) ∧ Pic w' gb (put (layQ f g a b) (fun i => ss[i]?.getD 0) 64 xs) tl ∧ w.grownBy w' (some gb) := by
  refine (callsIn_wide (n := 0)).1 ?_
  have hwf : ∀ f, Fence.wide.fn f := fun _ => trivial
  have hwd : Fence.wide.depth = none := rfl
  obtain ⟨sb, so, sc, rfl, hsl, hsc, hsh⟩ := hs.solid (by omega)
  have hpf := pl_fit hc hn hb
  have hQ : ∀ i, i < 64 → (layQ f g a b i : Int) = plcV f (cornerX f g a) (cornerY g a) b + (i : Int) / 8 * plcS f b + (i : Int) % 8 := fun i hi => by
    rw [(layQ_is hc hn hb hi).1, fetI_0]
  have hplA : plA f g a b = plcV f (cornerX f g a) (cornerY g a) b := by unfold plA; rw [if_pos hpl]
  have hplS : plS f g a b = plcS f b := by unfold plS; rw [if_pos hpl]
  obtain ⟨PV, ePV⟩ : ∃ PV, plcV f (cornerX f g a) (cornerY g a) b = PV := ⟨_, rfl⟩
  obtain ⟨PS, ePS⟩ : ∃ PS, plcS f b = PS := ⟨_, rfl⟩
  rw [ePV, ePS] at hpf
  simp only [ePV, ePS] at hQ
  rw [ePV] at hplA
  rw [ePS] at hplS
  obtain ⟨n, hnn⟩ : ∃ n, xs.length = n := ⟨_, rfl⟩
  obtain ⟨p0, p1, p2, p3, p4⟩ := hpf
  rw [hnn] at p4 hl
  have ht : ((n : Int) != bytesS f) = false := by rw [← hnn]; simpa using hn
  have HPL := Lib.hid (And.intro hplA (And.intro hplS hpl))
  have HQ := Lib.hid hQ
  have HNN := Lib.hid hnn
  have HM := Lib.hid hm
  have HP := Lib.hid hp
  have HS := Lib.hid hs
  have hsb' : sb ≠ gb := hsb sb rfl
  have hB := ((Below.refl w.heap.size w).alloc (Nat.le_refl _) (Obj.cells #[.int .i64 f, .int .i64 g, .int .i64 a] 23)).alloc (by simp) (Obj.cells #[.slice (some ⟨sb, so, none⟩) ss.length sc] 24)
  have hL := ((Lies.nil w).alloc (Obj.cells #[.int .i64 f, .int .i64 g, .int .i64 a] 23)).alloc (Obj.cells #[.slice (some ⟨sb, so, none⟩) ss.length sc] 24)
  simp only [World.size_alloc] at hL
  rw [hm] at hB hL hsc ⊢
  rw [hnn]
  have HB := Lib.hid hB
  have HL := Lib.hid hL
  have hpc := pcorner_any f g a
  rw [if_pos hc, hc] at hpc
  have HPC := Lib.hid hpc
  have hgb := hp.lt
  obtain ⟨q, hq⟩ : ∃ q, layQ f g a b = q := ⟨_, rfl⟩
  obtain ⟨v, hv⟩ : ∃ v : Nat → Int, (fun i => ss[i]?.getD 0) = v := ⟨_, rfl⟩
  rw [hq] at HQ
  rw [hq, hv]
  have HV := Lib.hid hv
  clear hq hv
  clear hB hL hpc hc hn hb hplA hplS hpl hQ hnn hm hp hs hsh ePV ePS hsb
  (refine callsIn_of_wp_marks Try.func65 rfl trivial ?_ rfl; simp only [Try.ntmps65, List.size_toArray, List.length_cons, List.length_nil, Nat.reduceAdd, Nat.reduceSub, Array.replicate_succ, Array.replicate_zero, List.push_toArray, List.append_toArray, List.nil_append, List.cons_append])
  gi_wp2_with (first
    | (gi_at_call 89; refine (callsIn_wide.2 (HPC.out _ ha ha2)).mono ?_; rintro e w1 ⟨rfl, hb1⟩; have HB1 := Lib.hid (below_nxt HB.out hb1); have HL1 := Lib.hid (HL.out.next hb1); have cs := blk_cell HL1.out.head 0; have k0 := HL1.out.tail.head; have c0 := blk_cell k0 0; have c1 := blk_cell k0 1; have c2 := blk_cell k0 2; simp only [List.getElem?_toArray, List.getElem?_cons_zero, List.getElem?_cons_succ] at cs c0 c1 c2; clear hb1 k0)
    | (gi_at_call 48; refine (callsIn_wide.2 (place_any _ _ _ _ _ ha ha2)).mono ?_; rw [HPL.out.1, HPL.out.2.1, HPL.out.2.2]; rintro e w2 ⟨rfl, hb2⟩; have HB2 := Lib.hid (below_nxt HB1.out hb2); have HL2 := Lib.hid (HL1.out.next hb2); clear hb2)
    | (gi_at_call 90; refine (callsIn_wide.2 (prows_any _ _ _ _ _ _)).mono ?_; rintro e w3 ⟨rfl, rfl⟩))
  clear cs c0 c1 c2
  obtain ⟨Z, hZ⟩ : ∃ Z, ((w2.alloc (Obj.cells #[.slice (some ⟨gb, 0, none⟩) n c] 24)).alloc (Obj.cells #[.int .i64 PV] 3)).alloc (Obj.cells #[.int .i64 PS] 3) = Z := ⟨_, rfl⟩
  have zs : Z.heap.size = w2.heap.size + 1 + 1 + 1 := by rw [← hZ]; simp
  have zL := ((HL2.out.alloc (Obj.cells #[.slice (some ⟨gb, 0, none⟩) n c] 24)).alloc (Obj.cells #[.int .i64 PV] 3)).alloc (Obj.cells #[.int .i64 PS] 3)
  simp only [World.size_alloc] at zL
  have zB : Below w.heap.size w Z := by rw [← hZ]; exact ((HB2.out.alloc HB2.out.size _).alloc (by have := HB2.out.size; simp; omega) _).alloc (by have := HB2.out.size; simp; omega) _
  rw [hZ] at zL ⊢
  have hw2 := HB2.out.size
  clear hZ
  obtain ⟨I, hI⟩ : ∃ I : Nat → World → Prop, I = fun m U => Pic U gb (put q v m xs) tl ∧ U.heap[w.heap.size + 1]? = some (.cells #[.slice (some ⟨sb, so, none⟩) 64 sc] 24 (0, 0)) ∧ Rd .u8 U (.slice (some ⟨sb, so, none⟩) ss.length sc) ss ∧ w.grownBy U (some gb) := ⟨_, rfl⟩
  have hF : ∀ k : Nat, ¬ (fun _ : Nat => False) k := fun _ h => h
  have hIA : ∀ m, Ab Z.heap.size (fun _ => False) (fun _ U => I m U) := fun m => by
    rw [hI]
    exact (Ab.blk (b := fun _ => gb) (o := fun _ => .cells ((put q v m xs).map (Value.int .u8) ++ tl).toArray 5) (fun _ => rfl) hF).and ((Ab.blk (b := fun _ => w.heap.size + 1) (o := fun _ => .cells #[.slice (some ⟨sb, so, none⟩) 64 sc] 24) (fun _ => rfl) hF).and ((Ab.rd hF).and (Ab.grown zB.size (fun _ h => h.elim))))
  have hI0 : I 0 Z := by
    rw [hI]
    exact ⟨HP.out.below zB, zL.tail.tail.tail.head, HS.out.below zB, below_grown zB _⟩
  have zLb := zL.tail.tail.head
  have zLa := zL.tail.head
  have zLs := zL.head
  have HI := Lib.hid hI
  have HZS := Lib.hid zs
  have zsz := zB.size
  clear hI zL zB zs
  refine wpIn_name (fun tm htm => ?_)
  have HTM := Lib.hid htm
  clear htm
  dsimp only
  have hev : (Act.mk tm []).eval (.tmp 52) = .func (.func 101) #[] #[.pointer (some ⟨w2.heap.size, 0, none⟩), .pointer (some ⟨w2.heap.size + 1, 0, none⟩), .pointer (some ⟨w2.heap.size + 1 + 1, 0, none⟩)] := by rw [HTM.out]; rfl
  refine range_outer (gf := 101) (lb := #[.pointer (some ⟨w2.heap.size, 0, none⟩), .pointer (some ⟨w2.heap.size + 1, 0, none⟩), .pointer (some ⟨w2.heap.size + 1 + 1, 0, none⟩)]) hev (enters_of Try.func101 (by kernel_rfl) rfl)
    (prow_seq (fun k => k = gb) (fun _ => False) gb 0 n c w2.heap.size (w2.heap.size + 1) (w2.heap.size + 1 + 1) PV PS Z p0 p1 (by omega) (by omega) p4 hl zLb zLa zLs (by omega) (by omega) (by omega) (fun _ h => h.elim)) (Below.refl _ _) (fun k x hx => by obtain ⟨_, rfl⟩ := prowA_inv hx; rfl) (fun _ h => h.elim)
    (fun k U => I (8 * k) U) (fun c k U => False) (fun k W W' row hj hg hr => hIA _ k W W' row hj hg hr) (fun _ => Ab.never _ _) hI0
    (fun k a' U => a' = { tmps := ((((tm.setIfInBounds 53 (.int .i64 k)).setIfInBounds 54 (.slice (some ⟨gb, (PV + (k : Int) * PS).toNat, none⟩) 8 (c - (PV + (k : Int) * PS).toNat))).setIfInBounds 13 (.int .i64 k)).setIfInBounds 14 (.slice (some ⟨gb, (PV + (k : Int) * PS).toNat, none⟩) 8 (c - (PV + (k : Int) * PS).toNat))), defers := [] } ∧ I (8 * k) U) ?hAft ?assign ?body ?done ?stop
  case hAft =>
    rintro k a' j U U' row ⟨h1, h2⟩ hg hr
    exact ⟨h1, hIA _ k U U' row h2 hg hr⟩
  case stop =>
    rintro c k U _ _ h _
    exact h.elim
  case assign =>
    rintro l' k x U hx hi
    obtain ⟨hk8, rfl⟩ := prowA_inv hx
    unfold prowV
    rw [HTM.out]
    gi_wp2
    exact ⟨KB.refl _ _ _, hi⟩
  case done =>
    rintro U hi hD
    rw [HI.out, prowA_len] at hi
    obtain ⟨hpic, hbox, hrd, hgr⟩ := hi
    have HPI := Lib.hid hpic
    have HGR := Lib.hid hgr
    have HD := Lib.hid hD
    have hzw : w2.heap.size + 3 = Z.heap.size := by have := HZS.out; omega
    have HZW := Lib.hid hzw
    clear hzw
    clear hpic hbox hrd hgr hD
    rw [HTM.out]
    gi_wp2
    refine ⟨by simp, .inl ⟨_, _, rfl, run_takeDeferred HD.out, ?_⟩⟩
    have hp := grownBy_putObj' U Z.heap.size (.deferred none)
    refine ⟨_, by simp [results, Try.results65, go_sem], rfl, HPI.out.kept hp (by have := HZW.out; simp; omega), ?_⟩
    exact ⟨hp.os.trans HGR.out.os, hp.tape.trans HGR.out.tape, hp.output.trans HGR.out.output, Nat.le_trans HGR.out.size hp.size, fun k hk hne => (hp.block k (Nat.lt_of_lt_of_le hk HGR.out.size) (by have := HZW.out; simp; omega)).trans (HGR.out.block k hk hne)⟩
  case body =>
    rintro l' k x a' U hx hl' hr ⟨rfl, hi⟩
    obtain ⟨hk8, rfl⟩ := prowA_inv hx
    rw [HI.out] at hi
    obtain ⟨hpic, hbox, hrd, hgr⟩ := hi
    have HPI := Lib.hid hpic
    have HBX := Lib.hid hbox
    have HRD := Lib.hid hrd
    have HGR := Lib.hid hgr
    have cs := blk_cell hbox 0
    simp only [List.getElem?_toArray, List.getElem?_cons_zero] at cs
    have hkl : (k : Int) < 8 := by omega
    have hqk := HQ.out (8 * k) (by omega)
    rw [show (((8 * k : Nat) : Int) / 8) = k by omega, show (((8 * k : Nat) : Int) % 8) = 0 by omega, Int.add_zero] at hqk
    have hqt : (PV + (k : Int) * PS).toNat = q (8 * k) := by omega
    rw [hqt]
    have hvs : ((List.range 8).map (fun u => v (8 * k + u))).length = 8 := by simp
    have hcell : ∀ i : Nat, i < 8 → U.cell? ⟨sb, so + 8 * k + i, none⟩ = some (.int .u8 (((List.range 8).map (fun u => v (8 * k + u)))[i]?.getD 0)) := fun i hi => by
      rcases hrd with ⟨e, _⟩ | ⟨b', o', c', e, _, _, _, hh⟩
      · cases e
      · cases e
        have h := hh (8 * k + i) (by rw [HM.out]; omega)
        rw [← Nat.add_assoc] at h
        rw [h, List.getElem?_map, List.getElem?_range hi, ← HV.out]; rfl
    have hfit : q (8 * k) + 8 ≤ (put q v (8 * k) xs).length := by
      have h63 := HQ.out (8 * k + 7) (by omega)
      rw [put_len, HNN.out]
      have hm1 : (k : Int) * PS ≤ 7 * PS := Int.mul_le_mul_of_nonneg_right (by omega) (by omega)
      omega
    have hsr := splice_row q v xs (8 * k) 8 (fun u hu => by
      have h1 := HQ.out (8 * k + u) (by omega)
      rw [show (((8 * k + u : Nat) : Int) / 8) = k by omega, show (((8 * k + u : Nat) : Int) % 8) = u by omega] at h1
      omega) (by rw [put_len] at hfit; exact hfit)
    obtain ⟨w4, hr4, hp4, hg4⟩ := run_copyP (ty := 3) (dc := c - q (8 * k)) (sc := sc - 8 * k) HPI.out hvs hcell hfit
    rw [hsr] at hp4
    have HP4 := Lib.hid hp4
    have HG4 := Lib.hid hg4
    clear hpic hbox hrd hgr hx hr hqt hvs hcell hfit hsr hp4 hg4
    rw [HTM.out]
    gi_wp2
    refine ⟨KB.row HG4.out (fun j e => ?_), ?_⟩
    · cases e
      exact ⟨rfl, _, HPI.out, rfl⟩
    · rw [HI.out]
      have hgz := HZS.out
      refine ⟨HP4.out, blk_kept HBX.out HG4.out (by simp; omega), HRD.out.kept HG4.out.size (fun b hb => HG4.out.block b (HRD.out.block b hb) (by simp only [Value.ownBlock, Option.some.injEq] at hb; simp; omega)), ?_⟩
      exact ⟨HG4.out.os.trans HGR.out.os, HG4.out.tape.trans HGR.out.tape, HG4.out.output.trans HGR.out.output, Nat.le_trans HGR.out.size HG4.out.size, fun j hj hne => (HG4.out.block j (Nat.lt_of_lt_of_le hj HGR.out.size) hne).trans (HGR.out.block j hj hne)⟩
theorem lay_any (f g a b : Int) (gb c : Nat) (xs ss : List Int) (tl : List Value) (u : Value) (w : World) (hp : Pic w gb xs tl) (hs : Rd .u8 w u ss) (hsb : ∀ k, u.ownBlock = some k → k ≠ gb) (hl : xs.length ≤ c) (hx : xs.length ≤ 1000000) (ha : -9223372036854775808 ≤ a) (ha2 : a ≤ 9223372036854775807) :
    Calls Try.prog 65 #[.slice (some ⟨gb, 0, none⟩) xs.length c, .agg #[.int .i64 f, .int .i64 g, .int .i64 a], .int .i64 b, u] w fun e w' => e = .returned (.int .i64 (layE f g a xs.length ss.length b)) ∧ Pic w' gb (layL f g a b xs ss) tl ∧ w.grownBy w' (some gb) := by
  by_cases hE : layE f g a xs.length ss.length b = 0
  · rcases lay_cases f g a b xs.length ss.length with ⟨hc, e⟩ | ⟨hc, h1, e⟩ | ⟨hc, h1, h2, e⟩ | ⟨hc, h1, h2, h3, hp', e⟩ | ⟨hc, h1, h2, h3, h4, _⟩
    · rw [e] at hE; exact absurd hE hc
    · rw [e] at hE; cases hE
    · rw [e] at hE; cases hE
    · rw [e] at hE; cases hE
    · rw [hE]
      unfold layL
      rw [if_pos hE]
      exact lay_ok f g a b gb c xs ss tl u w hp hs hsb hl ha ha2 hc h1 h2 h3 h4
  · rw [layL_none hE]
    exact (lay_bad f g a b gb xs.length c u ss w hs (by omega) ha ha2 hE).mono fun e w' ⟨h1, h2⟩ => ⟨h1, hp.below h2, below_grown h2 _⟩
end Go.Proofs.Ytcieggaihelacaa
/- The document's Lay: where it refuses; the samples laid one by one. -/
set_option linter.unusedSimpArgs false
set_option linter.unusedVariables false
namespace Go.Proofs.Ytcieggaihelacaa
open Go.RowKit
set_option maxRecDepth 100000
def refE (f g a : Int) (ns : List Int) : Int := if cornE f g a = 0 then (if ∀ x ∈ ns, x = bytesS f then 0 else 2) else cornE f g a
set_option maxHeartbeats 1000000 in
theorem refuses_any (f g a : Int) (v : Value) (ns : List Int) (w : World) (h : Rd .i64 w v ns) (ha : -9223372036854775808 ≤ a) (ha2 : a ≤ 9223372036854775807) :
    Calls Try.prog 93 #[.agg #[.int .i64 f, .int .i64 g, .int .i64 a], v] w fun e w' => e = .returned (.int .i64 (refE f g a ns)) ∧ Below w.heap.size w w' := by
  have hB := (Below.refl w.heap.size w).alloc (Nat.le_refl _) (Obj.cells #[.int .i64 f, .int .i64 g, .int .i64 a] 23)
  have hL := (Lies.nil w).alloc (Obj.cells #[.int .i64 f, .int .i64 g, .int .i64 a] 23)
  have HB := Lib.hid hB
  have HL := Lib.hid hL
  have hlen := h.len
  obtain ⟨va, vc, rfl⟩ := h.form
  have HH := Lib.hid h
  obtain ⟨n, hn⟩ : ∃ n, ns.length = n := ⟨_, rfl⟩
  have HN := Lib.hid hn
  rw [hn] at hlen HH ⊢
  clear hB hL h hn
  by_cases hc : cornE f g a = 0
  · obtain ⟨S, hS⟩ : ∃ S, bytesS f = S := ⟨_, rfl⟩
    have HC := Lib.hid hc
    have HS := Lib.hid hS
    by_cases hall : ∀ x ∈ ns, x = S
    · have hE : refE f g a ns = 0 := by unfold refE; rw [if_pos hc, hS, if_pos hall]
      rw [hE]
      have HA := Lib.hid hall
      clear hc hS hall hE
      go_enter Try.func93, Try.ntmps93
      go_wp2_with (first
        | (go_at_call 47; refine (rCorner_any _ _ _ _ ha ha2).mono ?_; rw [HC.out]; rintro e w1 ⟨rfl, hb1⟩; have HB1 := Lib.hid (below_nxt HB.out hb1); have HH1 := Lib.hid ((HH.out.alloc _).below hb1); have k0 := (HL.out.next hb1).head; have c0 := blk_cell k0 0; have c1 := blk_cell k0 1; have c2 := blk_cell k0 2; simp only [List.getElem?_toArray, List.getElem?_cons_zero, List.getElem?_cons_succ] at c0 c1 c2; clear k0 hb1)
        | (go_at_call 38; refine (rsize_any _ _).mono ?_; rw [HS.out]; rintro e w' ⟨rfl, rfl⟩))
      clear c0 c1 c2
      go_loop [12] (fun i => ∃ k : Nat, k ≤ n ∧ i = .int .i64 k) (fun i => n - (intOf i).toNat)
      case atStart => exact ⟨0, by omega, rfl⟩
      case round =>
        obtain ⟨k, hk, rfl⟩ := hrel
        by_cases hlt : k < n
        · have hkn : (k : Int) < n := by omega
          obtain ⟨b, o, rfl, hle, hc1⟩ := HH1.out.at' hlt
          · skip
            have hx : ns[k]?.getD 0 = S := by
              rw [List.getElem?_eq_getElem (by rw [HN.out]; exact hlt), Option.getD_some]
              exact HA.out _ (List.getElem_mem _)
            rw [hx] at hc1
            clear hx
            go_wp2
            go_round
            case rel => exact ⟨k + 1, by omega, by go_num⟩
            case measure => simp [intOf]; omega
        · have e : k = n := by omega
          subst e
          go_wp2
          go_ret
          exact ⟨rfl, HB1.out⟩
    · have hE : refE f g a ns = 2 := by unfold refE; rw [if_pos hc, hS, if_neg hall]
      rw [hE]
      have HA := Lib.hid hall
      clear hc hS hall hE
      go_enter Try.func93, Try.ntmps93
      go_wp2_with (first
        | (go_at_call 47; refine (rCorner_any _ _ _ _ ha ha2).mono ?_; rw [HC.out]; rintro e w1 ⟨rfl, hb1⟩; have HB1 := Lib.hid (below_nxt HB.out hb1); have HH1 := Lib.hid ((HH.out.alloc _).below hb1); have k0 := (HL.out.next hb1).head; have c0 := blk_cell k0 0; have c1 := blk_cell k0 1; have c2 := blk_cell k0 2; simp only [List.getElem?_toArray, List.getElem?_cons_zero, List.getElem?_cons_succ] at c0 c1 c2; clear k0 hb1)
        | (go_at_call 38; refine (rsize_any _ _).mono ?_; rw [HS.out]; rintro e w' ⟨rfl, rfl⟩))
      clear c0 c1 c2
      go_loop [12] (fun i => ∃ k : Nat, k ≤ n ∧ i = .int .i64 k ∧ ∀ j, j < k → ns[j]?.getD 0 = S) (fun i => n - (intOf i).toNat)
      case atStart => exact ⟨0, by omega, rfl, fun j hj => by omega⟩
      case round =>
        obtain ⟨k, hk, rfl, hjs⟩ := hrel
        have HJ := Lib.hid hjs
        clear hjs
        by_cases hlt : k < n
        · have hkn : (k : Int) < n := by omega
          obtain ⟨b, o, rfl, hle, hc1⟩ := HH1.out.at' hlt
          · skip
            obtain ⟨y, hy⟩ : ∃ y, ns[k]?.getD 0 = y := ⟨_, rfl⟩
            rw [hy] at hc1
            have HY := Lib.hid hy
            clear hy
            by_cases hyS : y = S
            · subst hyS
              go_wp2
              go_round
              case rel =>
                refine ⟨k + 1, by omega, by go_num, fun j hj => ?_⟩
                by_cases e : j = k
                · subst e; exact HY.out
                · exact HJ.out j (by omega)
              case measure => simp [intOf]; omega
            · have ht : (y != S) = true := by simpa using hyS
              clear hyS
              go_wp2
              go_ret
              exact ⟨rfl, HB1.out⟩
        · exfalso
          refine HA.out (fun x hx => ?_)
          obtain ⟨j, hj, rfl⟩ := List.getElem_of_mem hx
          have := HJ.out j (by have := HN.out; omega)
          rw [List.getElem?_eq_getElem hj] at this
          exact this
  · have ht : (cornE f g a != 0) = true := by simpa using hc
    have hE : refE f g a ns = cornE f g a := by unfold refE; rw [if_neg hc]
    rw [hE]
    clear hc hE
    go_enter Try.func93, Try.ntmps93
    go_wp2_with (go_at_call 47; refine (rCorner_any _ _ _ _ ha ha2).mono ?_; rintro e w1 ⟨rfl, hb1⟩; have HB1 := Lib.hid (below_nxt HB.out hb1); clear hb1)
    go_ret
    exact ⟨rfl, HB1.out⟩
theorem layE_ref (f g a b : Int) (n m : Nat) : (refE f g a [(n : Int)] ≠ 0 ∧ layE f g a n m b = refE f g a [(n : Int)]) ∨ (refE f g a [(n : Int)] = 0 ∧ m ≠ 64 ∧ layE f g a n m b = 2) ∨ (refE f g a [(n : Int)] = 0 ∧ cornE f g a = 0 ∧ (n : Int) = bytesS f ∧ m = 64 ∧ layE f g a n m b = plE f g a b) := by
  unfold layE refE
  by_cases hc : cornE f g a = 0
  · by_cases hn : (n : Int) = bytesS f
    · have h1 : ∀ x ∈ [(n : Int)], x = bytesS f := by simpa using hn
      rw [if_pos hc, if_pos h1]
      by_cases hm : m = 64
      · exact .inr (.inr ⟨rfl, hc, hn, hm, by rw [if_pos hc, if_pos ⟨hn, hm⟩]⟩)
      · exact .inr (.inl ⟨rfl, hm, by rw [if_pos hc, if_neg (fun h => hm h.2)]⟩)
    · have h1 : ¬ ∀ x ∈ [(n : Int)], x = bytesS f := by simpa using hn
      rw [if_pos hc, if_neg h1, if_pos hc, if_neg (fun h => hn h.1)]
      exact .inl ⟨by decide, rfl⟩
  · rw [if_neg hc, if_neg hc]
    exact .inl ⟨hc, rfl⟩
set_option maxHeartbeats 4000000 in
theorem rlay_any (f g a b : Int) (gb c : Nat) (xs ss : List Int) (tl : List Value) (u : Value) (w : World) (hp : Pic w gb xs tl) (hs : Rd .u8 w u ss) (hsb : ∀ k, u.ownBlock = some k → k ≠ gb) (hl : xs.length ≤ c) (hx : xs.length ≤ 1000000) (ha : -9223372036854775808 ≤ a) (ha2 : a ≤ 9223372036854775807) :
    Calls Try.prog 66 #[.slice (some ⟨gb, 0, none⟩) xs.length c, .agg #[.int .i64 f, .int .i64 g, .int .i64 a], .int .i64 b, u] w fun e w' => e = .returned (.int .i64 (layE f g a xs.length ss.length b)) ∧ Pic w' gb (layL f g a b xs ss) tl ∧ w.grownBy w' (some gb) := by
  have hsl := hs.len
  obtain ⟨ua, uc, rfl⟩ := hs.form
  obtain ⟨n, hnn⟩ : ∃ n, xs.length = n := ⟨_, rfl⟩
  obtain ⟨m, hmm⟩ : ∃ m, ss.length = m := ⟨_, rfl⟩
  have HNN := Lib.hid hnn
  have HMM := Lib.hid hmm
  have hgb := hp.lt
  have hB := ((Below.refl w.heap.size w).alloc (Nat.le_refl _) (Obj.cells #[.int .i64 f, .int .i64 g, .int .i64 a] 23)).alloc (by simp) (Obj.cells #[.int .i64 (n : Int)] 3)
  have hL := ((Lies.nil w).alloc (Obj.cells #[.int .i64 f, .int .i64 g, .int .i64 a] 23)).alloc (Obj.cells #[.int .i64 (n : Int)] 3)
  simp only [World.size_alloc] at hL
  have HB := Lib.hid hB
  have HL := Lib.hid hL
  have HP := Lib.hid hp
  have HS := Lib.hid hs
  have HSB := Lib.hid hsb
  have hrc := layE_ref f g a b n m
  have hnone : layE f g a xs.length ss.length b ≠ 0 → layL f g a b xs ss = xs := layL_none
  have hsome : layE f g a xs.length ss.length b = 0 → layL f g a b xs ss = put (layQ f g a b) (fun i => ss[i]?.getD 0) 64 xs := fun h => by unfold layL; rw [if_pos h]
  rw [hnn, hmm] at hnone hsome
  rw [hmm] at HS
  rw [hnn] at hl hx
  rw [hmm] at hsl
  have hrf := fun W => refuses_any f g a (.slice (some ⟨w.heap.size + 1, 0, none⟩) 1 1) [(n : Int)] W
  have HRF := Lib.hid hrf
  rw [hnn, hmm]
  clear hB hL hp hs hsb hnn hmm hrf
  have RD1 := Lib.hid (Rd.new1 .i64 (w.alloc (Obj.cells #[.int .i64 f, .int .i64 g, .int .i64 a] 23)) (n : Int) 3)
  rcases hrc with ⟨h1, e⟩ | ⟨h0, h1, e⟩ | ⟨h0, hc, hn, h1, e⟩
  · have ht : (refE f g a [(n : Int)] != 0) = true := by simpa using h1
    rw [hnone (by rw [e]; exact h1), e]
    clear e hnone hsome h1
    go_enter Try.func66, Try.ntmps66
    go_wp2_with (go_at_call 93; refine (HRF.out _ (by simpa using RD1.out) ha ha2).mono ?_; rintro e w1 ⟨rfl, hb1⟩; have HB1 := Lib.hid (below_nxt HB.out hb1); clear hb1)
    go_ret
    exact ⟨rfl, HP.out.below HB1.out, below_grown HB1.out _⟩
  · have ht : ((m : Int) != 64) = true := by simp; omega
    rw [hnone (by rw [e]; decide), e]
    have H0 := Lib.hid h0
    clear e hnone hsome h1 h0
    go_enter Try.func66, Try.ntmps66
    go_wp2_with (go_at_call 93; refine (HRF.out _ (by simpa using RD1.out) ha ha2).mono ?_; rw [H0.out]; rintro e w1 ⟨rfl, hb1⟩; have HB1 := Lib.hid (below_nxt HB.out hb1); clear hb1)
    go_ret
    exact ⟨rfl, HP.out.below HB1.out, below_grown HB1.out _⟩
  · subst h1
    by_cases hb : 1 ≤ b ∧ b ≤ 6
    · have hpl : plE f g a b = 0 := by unfold plE; rw [if_pos hc, if_pos hb]
      have hplA : plA f g a b = plcV f (cornerX f g a) (cornerY g a) b := by unfold plA; rw [if_pos hpl]
      have hplS : plS f g a b = plcS f b := by unfold plS; rw [if_pos hpl]
      have hpf := pl_fit hc hn hb
      have hQ : ∀ i, i < 64 → (layQ f g a b i : Int) = plcV f (cornerX f g a) (cornerY g a) b + (i : Int) / 8 * plcS f b + (i : Int) % 8 ∧ layQ f g a b i < n := fun i hi => by
        have := layQ_is hc hn hb hi
        rw [fetI_0] at this; exact this
      obtain ⟨PV, ePV⟩ : ∃ PV, plcV f (cornerX f g a) (cornerY g a) b = PV := ⟨_, rfl⟩
      obtain ⟨PS, ePS⟩ : ∃ PS, plcS f b = PS := ⟨_, rfl⟩
      rw [ePV, ePS] at hpf
      simp only [ePV, ePS] at hQ
      rw [ePV] at hplA
      rw [ePS] at hplS
      rw [hsome (by rw [e, hpl]), e, hpl]
      obtain ⟨q, hq⟩ : ∃ q, layQ f g a b = q := ⟨_, rfl⟩
      obtain ⟨v, hv⟩ : ∃ v : Nat → Int, (fun i => ss[i]?.getD 0) = v := ⟨_, rfl⟩
      rw [hq] at hQ
      rw [hq, hv]
      obtain ⟨p0, p1, p2, p3, p4⟩ := hpf
      have HV := Lib.hid hv
      have HQ := Lib.hid hQ
      have H0 := Lib.hid h0
      have HPL := Lib.hid (And.intro hplA (And.intro hplS hpl))
      clear e hnone hsome h0 hplA hplS hpl hQ hv hq ePV ePS hb hc hn
      go_enter Try.func66, Try.ntmps66
      go_wp2_with (first
        | (go_at_call 93; refine (HRF.out _ (by simpa using RD1.out) ha ha2).mono ?_; rw [H0.out]; rintro e w1 ⟨rfl, hb1⟩; have HB1 := Lib.hid (below_nxt HB.out hb1); have k0 := (HL.out.next hb1).tail.head; have c0 := blk_cell k0 0; have c1 := blk_cell k0 1; have c2 := blk_cell k0 2; simp only [List.getElem?_toArray, List.getElem?_cons_zero, List.getElem?_cons_succ] at c0 c1 c2; clear hb1 k0)
        | (go_at_call 49; refine (rPlace_any _ _ _ _ _ ha ha2).mono ?_; rw [HPL.out.1, HPL.out.2.1, HPL.out.2.2]; rintro e w2 ⟨rfl, hb2⟩; have HB2 := Lib.hid (below_nxt HB1.out hb2); clear hb2))
      clear c0 c1 c2
      go_loopw [13] (fun i wr => ∃ k : Nat, k ≤ 64 ∧ i = .int .i64 k ∧ Pic wr gb (put q v k xs) tl ∧ w.grownBy wr (some gb)) (fun i _ => 100 - (intOf i).toNat)
      case atStart => exact ⟨0, by omega, rfl, HP.out.below HB2.out, below_grown HB2.out _⟩
      case round =>
        obtain ⟨k, hk, rfl, hpic, hgr⟩ := hrel
        have HPI := Lib.hid hpic
        have HGR := Lib.hid hgr
        clear hpic hgr
        by_cases hlt : k < 64
        · have hkl : (k : Int) < 64 := by omega
          obtain ⟨hq1, hq2⟩ := HQ.out k hlt
          have hrs := HS.out.kept HGR.out.size (fun b hb => HGR.out.block b (HS.out.block b hb) (fun e => by cases e; exact HSB.out _ (by rw [HMM.out]; exact hb) rfl))
          obtain ⟨b0, o0, rfl, hle0, hc0⟩ := hrs.at' hlt
          have hvk : ss[k]?.getD 0 = v k := by rw [← HV.out]
          rw [hvk] at hc0
          have hcq := HPI.out.cell (i := q k) (by rw [put_len, HNN.out]; exact hq2)
          have hfq := HPI.out.free (q k)
          generalize (put q v k xs)[q k]?.getD 0 = old at hcq
          have hm0 : 0 ≤ (k : Int) / 8 * PS := Int.mul_nonneg (by omega) (by omega)
          have hm1 : (k : Int) / 8 * PS ≤ 7 * PS := Int.mul_le_mul_of_nonneg_right (by omega) (by omega)
          have hq1' := hq1.symm
          clear hq1 hrs hvk
          go_wp2
          go_roundw
          case rel => exact ⟨k + 1, by omega, by go_num, HPI.out.set (by rw [put_len, HNN.out]; exact hq2) _, HGR.out.trans (grown_set wr ⟨gb, q k, none⟩ _)⟩
          case measure => simp [intOf]; omega
        · have e : k = 64 := by omega
          subst e
          go_wp2
          go_ret
          exact ⟨rfl, HPI.out, HGR.out⟩
    · have hpl : plE f g a b = 3 := by unfold plE; rw [if_pos hc, if_neg hb]
      rw [hnone (by rw [e, hpl]; decide), e, hpl]
      have H0 := Lib.hid h0
      have HPL := Lib.hid hpl
      clear e hnone hsome h0 hpl hb hc hn
      go_enter Try.func66, Try.ntmps66
      go_wp2_with (first
        | (go_at_call 93; refine (HRF.out _ (by simpa using RD1.out) ha ha2).mono ?_; rw [H0.out]; rintro e w1 ⟨rfl, hb1⟩; have HB1 := Lib.hid (below_nxt HB.out hb1); have k0 := (HL.out.next hb1).tail.head; have c0 := blk_cell k0 0; have c1 := blk_cell k0 1; have c2 := blk_cell k0 2; simp only [List.getElem?_toArray, List.getElem?_cons_zero, List.getElem?_cons_succ] at c0 c1 c2; clear hb1 k0)
        | (go_at_call 49; refine (rPlace_any _ _ _ _ _ ha ha2).mono ?_; rw [HPL.out]; rintro e w2 ⟨rfl, hb2⟩; have HB2 := Lib.hid (below_nxt HB1.out hb2); clear hb2))
      go_ret
      exact ⟨rfl, HP.out.below HB2.out, below_grown HB2.out _⟩
end Go.Proofs.Ytcieggaihelacaa
/- Grey pictures: the document's. -/
set_option linter.unusedSimpArgs false
set_option linter.unusedVariables false
namespace Go.Proofs.Ytcieggaihelacaa
open Go.RowKit
set_option maxRecDepth 100000
def greyL (f : Int) : List Int := List.replicate (bytesS f).toNat 128
theorem greyL_len (f : Int) : ((greyL f).length : Int) = bytesS f := by
  unfold greyL
  rw [List.length_replicate]
  rcases fmt_cases f with ⟨_, _, _, e, _⟩ | ⟨_, _, _, e, _⟩ | ⟨_, _, _, _, e, _⟩ <;> rw [e] <;> rfl
theorem greyL_byt (f : Int) : byt (greyL f) := fun x hx => by rw [List.eq_of_mem_replicate hx]; decide
theorem greyL_none {f : Int} (h : fmtE f ≠ 0) : greyL f = [] := by
  unfold greyL
  rcases fmt_cases f with ⟨_, _, _, _, e⟩ | ⟨_, _, _, _, e⟩ | ⟨_, _, _, _, e, _⟩
  · exact absurd e h
  · exact absurd e h
  · rw [e]; rfl
theorem rep_step (n k : Nat) (hk : k < n) : (List.replicate k (128 : Int) ++ List.replicate (n - k) 0).set k 128 = List.replicate (k + 1) 128 ++ List.replicate (n - (k + 1)) 0 := by
  rw [List.set_append_right _ _ (by simp), List.length_replicate, Nat.sub_self, show n - k = (n - (k + 1)) + 1 by omega, List.replicate_succ, List.set_cons_zero, List.replicate_succ']
  simp
set_option maxHeartbeats 1000000 in
theorem rgrey_any (f : Int) (w : World) :
    Calls Try.prog 69 #[.int .i64 f] w fun e w' => (∃ r, e = .returned r ∧ w'.ownsRow w.heap.size 5 1 r (greyL f).length ((greyL f).map (Value.int .u8))) ∧ Below w.heap.size w w' := by
  by_cases hE : fmtE f = 0
  · obtain ⟨n, hn, hnb⟩ : ∃ n : Nat, bytesS f = n ∧ n ≤ 152064 := by
      rcases fmt_cases f with ⟨_, _, _, e, _⟩ | ⟨_, _, _, e, _⟩ | ⟨_, _, _, _, e, _⟩ <;> rw [e]
      · exact ⟨152064, rfl, by omega⟩
      · exact ⟨38016, rfl, by omega⟩
      · exact ⟨0, rfl, by omega⟩
    have hg : greyL f = List.replicate n 128 := by unfold greyL; rw [hn]; rfl
    have hmk := fun W => run_make_row' (P := Try.prog) 24 5 (.int .u8 0) 1 Try.underlying24 (by kernel_rfl) rfl .i64 .i64 n (by omega) (by omega) W
    have HZ := Lib.hid (pic_zero w n)
    have HB := Lib.hid ((Below.refl w.heap.size w).alloc (Nat.le_refl _) (.cells (madeCells #[Value.int .u8 0] n) 5))
    have HN := Lib.hid hn
    have HE := Lib.hid hE
    rw [hg]
    clear hn hE hg
    go_enter Try.func69, Try.ntmps69
    go_wp2_with (go_at_call 38; refine (rsize_any _ _).mono ?_; rw [HN.out, HE.out]; rintro e w' ⟨rfl, rfl⟩)
    go_loopw [8] (fun i wr => ∃ k : Nat, k ≤ n ∧ i = .int .i64 k ∧ Below w.heap.size w wr ∧ Pic wr w.heap.size (List.replicate k 128 ++ List.replicate (n - k) 0) []) (fun i _ => n - (intOf i).toNat)
    case atStart => exact ⟨0, Nat.zero_le _, rfl, HB.out, by simpa using HZ.out⟩
    case round =>
      obtain ⟨k, hk, rfl, hb, hp⟩ := hrel
      have HP := Lib.hid hp
      have HBB := Lib.hid hb
      clear hp hb
      by_cases hlt : k < n
      · have hkn : (k : Int) < n := by omega
        have hc := HP.out.cell (i := k) (by simp; omega)
        have hf := HP.out.free k
        generalize (List.replicate k (128 : Int) ++ List.replicate (n - k) 0)[k]?.getD 0 = u at hc
        go_wp2
        go_roundw
        case rel => exact ⟨k + 1, by omega, by go_num, HBB.out.setCell (Nat.le_refl _) _, by rw [← rep_step n k hlt]; exact HP.out.set (by simp; omega) _⟩
        case measure => simp [intOf]; omega
      · have e : k = n := by omega
        subst e
        go_wp2
        go_ret
        have hp := HP.out
        rw [Nat.sub_self, List.replicate_zero, List.append_nil] at hp
        have ho := hp.owns (base := w.heap.size) (Nat.le_refl _) (by simp [maxLen]; omega)
        rw [List.length_nil, Nat.add_zero, List.length_replicate] at ho
        exact ⟨⟨_, rfl, by rw [List.length_replicate]; exact ho⟩, HBB.out⟩
  · have ht : (fmtE f != 0) = true := by simpa using hE
    rw [greyL_none hE]
    clear hE
    go_enter Try.func69, Try.ntmps69
    go_wp2_with (go_at_call 38; refine (rsize_any _ _).mono ?_; rintro e w' ⟨rfl, rfl⟩)
    go_ret
    exact ⟨⟨_, rfl, World.ownsRow_nil _ _ _ _⟩, Below.refl _ _⟩
end Go.Proofs.Ytcieggaihelacaa
/- bytes.Repeat at one byte, and the program's grey picture. -/
set_option linter.unusedSimpArgs false
set_option linter.unusedVariables false
namespace Go.Proofs.Ytcieggaihelacaa
open Go.RowKit
set_option maxRecDepth 100000
theorem mul64_any (n : Int) (w : World) (hn : n = 38016 ∨ n = 152064) :
    Calls Try.prog 106 #[.int .u64 1, .int .u64 n] w fun e w' => e = .returned (.tuple #[.int .u64 0, .int .u64 n]) ∧ w = w' := by
  have e1 : bits .and .u64 1 4294967295 = 1 := by kernel_rfl
  have e2 : bits .and .u64 38016 4294967295 = 38016 := by kernel_rfl
  have e3 : bits .and .u64 152064 4294967295 = 152064 := by kernel_rfl
  have e4 : bits .and .u64 0 4294967295 = 0 := by kernel_rfl
  rcases hn with rfl | rfl
  · go_enter Try.func106, Try.ntmps106
    go_wp2
    go_ret2
    exact ⟨rfl, rfl⟩
  · go_enter Try.func106, Try.ntmps106
    go_wp2
    go_ret2
    exact ⟨rfl, rfl⟩
theorem mul_any (n : Int) (w : World) (hn : n = 38016 ∨ n = 152064) :
    Calls Try.prog 102 #[.int .u64 1, .int .u64 n] w fun e w' => e = .returned (.tuple #[.int .u64 0, .int .u64 n]) ∧ w = w' := by
  go_enter Try.func102, Try.ntmps102
  go_wp2_with (go_at_call 106; refine (mul64_any n _ hn).mono ?_; rintro e w' ⟨rfl, rfl⟩)
  go_ret2
  exact ⟨rfl, rfl⟩
def reps (k : Nat) : List Value := List.replicate k (.int .u8 128)
theorem run_copyC {ty : TypeId} {w : World} {gb p n1 n2 dc sb so sc : Nat} {cs cur : List Value} {t : TypeId} (hp : w.heap[gb]? = some (.cells cur.toArray t (0, 0))) (hm : cs.length = Nat.min n2 n1)
    (hv : ∀ j v, cs[j]? = some v → w.cell? ⟨sb, so + j, none⟩ = some v) (hfit : p + cs.length ≤ cur.length) (h1 : ∀ v ∈ cs, v.oneCell' = true) :
    ∃ w', (Builtin.copy_ #[24, 24] ty #[.slice (some ⟨gb, p, none⟩) n1 dc, .slice (some ⟨sb, so, none⟩) n2 sc]).run Try.prog w = .ok (goInt cs.length) w' ∧ w'.heap[gb]? = some (.cells (cur.take p ++ (cs ++ cur.drop (p + cs.length))).toArray t (0, 0)) ∧ w.grownBy w' (some gb) := by
  have hr := run_copy_row (P := Try.prog) w 24 24 ty 5 gb p n1 dc ⟨sb, so, none⟩ n2 sc _ t cs Try.underlying24 (by kernel_rfl) hp hm (fun j y hj => by
    have h1 := hv j y hj
    unfold Addr.add
    split
    · rename_i e0; subst e0; exact h1
    · exact h1) (by simpa using hfit) h1
  refine ⟨_, hr, ?_, ⟨rfl, rfl, rfl, by simp [World.setRow], fun k hk hne => setRow_other w gb k _ (fun e => hne (by rw [e]))⟩⟩
  rw [setRow_heap w gb _ _ _ _ hp]
  simp only [List.append_assoc]
theorem opIn_copy {F : Fence} {nF : Nat} {K : Act → World → Prop} {Q : Exit → Act → World → Prop} {a : Act} {w w' : World} {dst : Option Tmp} {ty : TypeId} {pos : String} {aft : Array Edge} {gd : Option (Nat × Bool)} {d s : Operand} {vd vs r : Value}
    (hd : a.eval d = vd) (hs : a.eval s = vs) (hr : (Builtin.copy_ #[24, 24] ty #[vd, vs]).run Try.prog w = .ok r w') (h : K (a.put dst r) w') :
    Oper.wpIn F nF Try.prog ⟨dst, .call { callee := .builtin .copy, args := #[d, s], argTypes := #[24, 24] }, ty, pos, aft, gd⟩ a w K Q := by
  unfold Oper.wpIn
  refine ⟨by simp [Oper.about, resolve, Target.leads, Sem.run_pure], ?_⟩
  rw [Oper.semAt_plain F _ _ (by intro c hc'; cases hc')]
  simp [execOp, resolve, invoke, builtin, hs, hd, hr, Result.andThen]
  exact h
theorem reps_cell {w : World} {g k : Nat} {rest : List Value} {t : TypeId} (h : w.heap[g]? = some (.cells (reps k ++ rest).toArray t (0, 0))) {j : Nat} {v : Value} {m : Nat} (hm : m ≤ k) (hj : (reps m)[j]? = some v) : w.cell? ⟨g, j, none⟩ = some v := by
  rw [blk_cell h, List.getElem?_toArray, List.getElem?_append_left (by
    have := (List.getElem?_eq_some_iff.1 hj).1
    unfold reps at this ⊢
    simp at this ⊢; omega)]
  unfold reps at hj ⊢
  rw [List.getElem?_replicate] at hj ⊢
  split at hj
  · rw [if_pos (by omega)]; exact hj
  · cases hj
theorem reps_take {k m : Nat} (rest : List Value) (h : m ≤ k) : (reps k ++ rest).take m = reps m := by
  unfold reps
  rw [List.take_append_of_le_length (by simpa using h), List.take_replicate, Nat.min_eq_left h]
set_option maxHeartbeats 4000000 in
theorem repeat_any (v : Value) (n : Nat) (w : World) (h : Rd .u8 w v [128]) (hn : n = 38016 ∨ n = 152064) :
    Calls Try.prog 94 #[v, .int .i64 (n : Int)] w fun e w' => (∃ g tl, e = .returned (.slice (some ⟨g, 0, none⟩) n n) ∧ w.heap.size ≤ g ∧ Pic w' g (List.replicate n 128) tl) ∧ Below w.heap.size w w' := by
  obtain ⟨sb, so, sc, rfl, hsb, hsc, hsh⟩ := h.solid (by decide)
  have hc0 := hsh 0 (by decide)
  simp only [List.length_singleton, List.getElem?_cons_zero, Option.getD_some, Nat.add_zero] at hc0 hsc ⊢
  obtain ⟨cs, hrunM, hle, hmax⟩ := Lib.run_makeNoZero (P := Try.prog) w #[3] 24 5 Try.underlying24 n (by omega)
  have hcall : (callFunc 103 #[.int .i64 (n : Int)]).run Try.prog w = .ok (.value (.slice (some ⟨w.heap.size, 0, none⟩) n cs.size)) ((w.alloc (.cells cs 5)).drewN 2) := by
    rw [run_callFunc_extern Try.func103 (by kernel_rfl) (by kernel_rfl) (by kernel_rfl) (e := Extern.BytealgMakeNoZero.makeNoZero #[3] #[24]) (by kernel_rfl), hrunM]
    rfl
  clear hrunM hsh h hmax
  have hn1 : 8192 < (n : Int) := by omega
  have hn2 : (n : Int) ≤ 152064 := by omega
  have hlec : (n : Int) ≤ (cs.size : Int) := by omega
  have hmul := mul_any (n : Int) w (by omega)
  have HMUL := Lib.hid hmul
  have hn0 : ((n : Int) == 0) = false := by simp; omega
  clear hmul
  obtain ⟨w2, hr1, hh1, hg1⟩ := run_copyC (ty := 3) (w := (w.alloc (.cells cs 5)).drewN 2) (gb := w.heap.size) (p := 0) (n1 := n) (n2 := 1) (dc := n) (sb := sb) (so := so) (sc := sc) (cs := reps 1) (cur := cs.toList) (t := 5) (by rw [Array.toArray_toList]; exact World.alloc_heap_new w _) (by show (reps 1).length = min 1 n; rw [Nat.min_eq_left (by omega)]; rfl) (fun j y hj => by
    have h1 : j = 0 ∧ y = .int .u8 128 := by
      cases j with
      | zero => exact ⟨rfl, by simpa [reps] using hj.symm⟩
      | succ j => simp [reps] at hj
    obtain ⟨rfl, rfl⟩ := h1
    exact (World.cell?_alloc_lt w _ _ hsb).trans hc0) (by unfold reps; simp; omega) (by intro y hy; rw [List.eq_of_mem_replicate hy]; rfl)
  rw [show (reps 1).length = 1 from rfl] at hr1 hh1
  simp only [List.take_zero, List.nil_append, Nat.zero_add] at hh1
  have hB2 : Below w.heap.size w w2 := (below_drewN ((Below.refl w.heap.size w).alloc (Nat.le_refl _) (.cells cs 5)) 2).grown hg1 (by simp) (fun j e => by cases e; exact Nat.le_refl _)
  have HH1 := Lib.hid hh1
  have HB2 := Lib.hid hB2
  clear hh1 hg1 hB2 hc0
  go_enter Try.func94, Try.ntmps94
  go_wp2_with (go_at_call 102; refine HMUL.out.mono ?_; rintro e w' ⟨rfl, rfl⟩)
  clear hr1 hcall hn0
  go_loopw [10, 11] (fun i _ wr => ∃ k : Nat, 1 ≤ k ∧ k ≤ n ∧ i = .int .i64 k ∧ Below w.heap.size w wr ∧ ∃ rest : List Value, k + rest.length = cs.size ∧ wr.heap[w.heap.size]? = some (.cells (reps k ++ rest).toArray 5 (0, 0))) (fun i _ _ => n - (intOf i).toNat)
  case atStart => exact ⟨1, by omega, by omega, rfl, HB2.out, cs.toList.drop 1, by simp; omega, HH1.out⟩
  case round =>
    obtain ⟨k, hk1, hk, rfl, hb, rest, hrl, hh⟩ := hrel
    have HR := Lib.hid hrl
    have HHK := Lib.hid hh
    have HBB := Lib.hid hb
    clear hrl hh hb HH1
    by_cases hlt : k < n
    · have hkn : (k : Int) < n := by omega
      have hk0 : 1 ≤ (k : Int) := by omega
      obtain ⟨m, hm⟩ : ∃ m : Nat, min k 8192 = m := ⟨_, rfl⟩
      have hm1 : min (k : Int) 8192 = (m : Int) := by omega
      have hmk : m ≤ k ∧ 1 ≤ m ∧ m ≤ n := by omega
      have hkm : k + (n - k) ≤ n := by omega
      obtain ⟨d, hd⟩ : ∃ d : Nat, Nat.min m (n - k) = d := ⟨_, rfl⟩
      have hdb : d ≤ m ∧ 1 ≤ d ∧ k + d ≤ n := by simp only [← hd, Nat.min_def]; split <;> omega
      obtain ⟨w4, hr4, hh4, hg4⟩ := run_copyC (ty := 3) (w := wr.drew) (gb := w.heap.size) (p := k) (n1 := n - k) (n2 := m) (dc := n - k) (sb := w.heap.size) (so := 0) (sc := n) (cs := reps d) (cur := reps k ++ rest) (t := 5) HHK.out (by unfold reps; simpa using hd.symm) (fun j y hj => by rw [Nat.zero_add]; exact reps_cell (w := wr.drew) HHK.out (m := d) (by omega) hj) (by have := HR.out; unfold reps; simp; omega) (by intro y hy; rw [List.eq_of_mem_replicate hy]; rfl)
      have hlen : (reps d).length = d := by unfold reps; simp
      rw [hlen] at hr4 hh4
      have hcells : (reps k ++ rest).take k ++ (reps d ++ (reps k ++ rest).drop (k + d)) = reps (k + d) ++ rest.drop d := by
        unfold reps
        rw [List.take_append_of_le_length (by simp), List.take_replicate, Nat.min_self, List.drop_append, List.length_replicate, ← List.append_assoc, List.replicate_append_replicate, List.drop_of_length_le (by simp), List.nil_append, show k + d - k = d by omega]
      rw [hcells] at hh4
      have HH4 := Lib.hid hh4
      have HG4 := Lib.hid hg4
      have HR4 := Lib.hid hr4
      clear hcells hlen hh4 hg4 hr4 hd hm
      have hmn : m ≤ n := by omega
      have hmn' : (m : Int) ≤ (n : Int) := by omega
      have hkn2 : ¬ n = k := by omega
      go_wp2
      refine wp_region_mix (fun _ => True) [8, 9] [(0, true), (1, true), (2, true), (3, true), (4, true), (5, true), (6, true), (7, false), (8, false), (9, false)] (by kernel_rfl) (by kernel_rfl) rfl (by kernel_rfl) trivial ?_
      iterate 3 (refine mix_q rfl rfl (fun w' hB => by go_simp; rfl) ?_; simp only [Act.put, List.setIfInBounds_toArray, List.set_cons_succ, List.set_cons_zero])
      refine mix_q (v := .slice (some ⟨w.heap.size, k, none⟩) (n - k) (n - k)) rfl rfl (fun w' hB => by go_simp) ?_; simp only [Act.put, List.setIfInBounds_toArray, List.set_cons_succ, List.set_cons_zero]
      iterate 2 (refine mix_q rfl rfl (fun w' hB => by go_simp; rfl) ?_; simp only [Act.put, List.setIfInBounds_toArray, List.set_cons_succ, List.set_cons_zero])
      refine mix_q (v := .slice (some ⟨w.heap.size, 0, none⟩) m n) rfl rfl (fun w' hB => by go_simp) ?_; simp only [Act.put, List.setIfInBounds_toArray, List.set_cons_succ, List.set_cons_zero]
      refine mix_e rfl rfl (opIn_copy rfl rfl HR4.out ⟨fun _ => trivial, ?_⟩)
      have hw : IntKind.i64.wrap ((k : Int) + (d : Int)) = (k : Int) + (d : Int) := w64 (by omega) (by omega)
      refine mix_e rfl rfl ?_
      go_simp
      refine mix_e rfl rfl ?_
      go_simp
      refine mix_nil ?_
      go_wp2
      go_roundw
      case rel => exact ⟨k + d, by omega, by omega, by go_num, (below_drewN HBB.out 1).grown HG4.out (by have := HBB.out.size; simpa using this) (fun j e => by cases e; exact Nat.le_refl _), rest.drop d, by have := HR.out; rw [List.length_drop]; omega, HH4.out⟩
      case measure => simp [intOf]; omega
    · have e : k = n := by omega
      subst e
      go_wp2
      go_ret
      refine ⟨⟨w.heap.size, rest, rfl, Nat.le_refl _, ?_⟩, HBB.out⟩
      unfold Pic
      rw [List.map_replicate]
      exact HHK.out
theorem rd_128 (w : World) : Rd .u8 (w.alloc (.cells #[.int .u8 128] 5)) (.slice (some ⟨w.heap.size, 0, none⟩) 1 1) [128] := Rd.new1 .u8 w 128 5
/-- What the program's grey picture is. -/
def GreyV (f : Int) (w w' : World) (r : Value) : Prop := (fmtE f ≠ 0 ∧ r = .slice none 0 0) ∨ ∃ g n tl, fmtE f = 0 ∧ r = .slice (some ⟨g, 0, none⟩) n n ∧ (n : Int) = bytesS f ∧ (greyL f).length = n ∧ w.heap.size ≤ g ∧ Pic w' g (greyL f) tl
theorem grey_any (f : Int) (w : World) :
    Calls Try.prog 68 #[.int .i64 f] w fun e w' => (∃ r, e = .returned r ∧ GreyV f w w' r) ∧ Below w.heap.size w w' := by
  by_cases hE : fmtE f = 0
  · obtain ⟨n, hn, hnb⟩ : ∃ n : Nat, bytesS f = n ∧ (n = 38016 ∨ n = 152064) := by
      rcases fmt_cases f with ⟨_, _, _, e, _⟩ | ⟨_, _, _, e, _⟩ | ⟨_, _, _, _, _, e⟩
      · exact ⟨152064, e, .inr rfl⟩
      · exact ⟨38016, e, .inl rfl⟩
      · rw [e] at hE; cases hE
    have hg : greyL f = List.replicate n 128 := by unfold greyL; rw [hn]; rfl
    have hres : ∀ w' r, (∃ g tl, r = .slice (some ⟨g, 0, none⟩) n n ∧ w.heap.size ≤ g ∧ Pic w' g (List.replicate n 128) tl) → GreyV f w w' r := fun w' r ⟨g, tl, h1, h2, h3⟩ => .inr ⟨g, n, tl, hE, h1, hn.symm, by rw [hg]; simp, h2, by rw [hg]; exact h3⟩
    have HRES := Lib.hid hres
    have HB := Lib.hid ((Below.refl w.heap.size w).alloc (Nat.le_refl _) (.cells #[.int .u8 128] 5))
    have HN := Lib.hid hn
    have HE := Lib.hid hE
    have HNB := Lib.hid hnb
    clear hn hE hg hres hnb
    go_enter Try.func68, Try.ntmps68
    go_wp2_with (first
      | (go_at_call 37; refine (size_any _ _).mono ?_; rw [HN.out, HE.out]; rintro e w' ⟨rfl, rfl⟩)
      | (go_at_call 94; refine (repeat_any _ n _ (rd_128 w) HNB.out).mono ?_; rintro e w1 ⟨⟨g, tl, rfl, hg1, hp1⟩, hb1⟩; have HP1 := Lib.hid hp1; have HB1 := Lib.hid (below_nxt HB.out hb1); clear hp1 hb1))
    go_ret
    exact ⟨⟨_, rfl, HRES.out _ _ ⟨g, tl, rfl, by simp at hg1; omega, HP1.out⟩⟩, HB1.out⟩
  · have ht : (fmtE f != 0) = true := by simpa using hE
    have HE := Lib.hid hE
    clear hE
    go_enter Try.func68, Try.ntmps68
    go_wp2_with (go_at_call 37; refine (size_any _ _).mono ?_; rintro e w' ⟨rfl, rfl⟩)
    go_ret
    exact ⟨⟨_, rfl, .inl ⟨HE.out, rfl⟩⟩, Below.refl _ _⟩
end Go.Proofs.Ytcieggaihelacaa
