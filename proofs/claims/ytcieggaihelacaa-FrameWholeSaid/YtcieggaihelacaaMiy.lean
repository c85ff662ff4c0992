/- A region that draws its order, with several facts of the world, each good until its own operation is listed: for loads ahead of stores whose order is open. -/
import Derived.Test.YtcieggaihelacaaMix
set_option linter.unusedSimpArgs false
set_option linter.unusedVariables false
namespace Go.Proofs.Ytcieggaihelacaa
open Go.RowKit
section
variable {F : Fence} {n : Nat} {P : Program} {ops : Array Oper} {md : Region.Mode} {Q : Act → World → Prop} {Bs : List (Nat × (World → Prop))}

def AllF (Bs : List (Nat × (World → Prop))) (listed : Array Bool) (w : World) : Prop := ∀ p ∈ Bs, listed.getD p.1 false = false → p.2 w
def anyF (F : Fence) (n : Nat) (P : Program) (md : Region.Mode) (ops : Array Oper) (Bs : List (Nat × (World → Prop))) (Q : Act → World → Prop) : Nat → Array Bool → Act → World → Prop
  | 0, listed, a, w => Region.ready md ops listed = [] ∧ Q a w
  | f + 1, listed, a, w => (Region.ready md ops listed = [] → Q a w) ∧
    ∀ i ∈ Region.ready md ops listed, wpOpIn F n P ops noExit i (fun a' w' => AllF Bs (listed.setIfInBounds i true) w' ∧ anyF F n P md ops Bs Q f (listed.setIfInBounds i true) a' w') a w
theorem anyF_sound {Q' : Exit → Act → World → Prop} (hQ : ∀ a w, Q a w → Q' .normal a w) : ∀ (f : Nat) (listed : Array Bool) (a : Act) (w : World),
    anyF F n P md ops Bs Q f listed a w → wpAnyIn F n P md ops Q' f listed a w
  | 0, _, _, _, h => ⟨h.1, hQ _ _ h.2⟩
  | f + 1, _, _, _, h => ⟨fun h0 => hQ _ _ (h.1 h0), fun i hi => wpOpIn_weaken (fun a' w' h' => anyF_sound hQ f _ a' w' h'.2) (h.2 i hi)⟩
theorem AllF.set {listed : Array Bool} {w : World} {i : Nat} (h : AllF Bs listed w) : AllF Bs (listed.setIfInBounds i true) w := fun p hp hl => h p hp (by
  by_cases e : i = p.1
  · subst e
    rcases Nat.lt_or_ge p.1 listed.size with h' | h'
    · rw [Array.getD_eq_getD_getElem?, Array.getElem?_setIfInBounds_self_of_lt h'] at hl; cases hl
    · rw [Array.getD_eq_getD_getElem?, Array.getElem?_eq_none h']; rfl
  · rw [getD_set_ne false e] at hl; exact hl)
theorem anyF_first {i t : Nat} {oi : Oper} {v : Value} {B : World → Prop} (hF : ∀ f, F.fn f) (hi : ops[i]? = some oi) (hpl : plainB ops = true) (g : Nat) (hw : waitsB md ops g t i = true) (ht : ops.size ≤ t → False) (hB : (t, B) ∈ Bs) (hni : ∀ p ∈ Bs, p.1 ≠ i) :
    ∀ (f : Nat) (listed : Array Bool) (a : Act) (w : World), listed.size = ops.size → AllF Bs listed w → Closed md ops listed →
      (∀ j oj, ops[j]? = some oj → j ≠ i → listed.getD j true = false → (∀ e ∈ oj.after, Region.binds md e = true → e.on ≠ i) → oi.apart ops oj = true) →
      i ∈ Region.ready md ops listed → QuietB P ops B oi a v →
      anyF F n P md ops Bs Q f (listed.setIfInBounds i true) (a.put oi.dst v) w → anyF F n P md ops Bs Q (f + 1) listed a w := by
  obtain ⟨hsi, hdi⟩ := plainB_spec hpl i oi hi
  have key : ∀ (listed : Array Bool) (w : World), AllF Bs listed w → Closed md ops listed → i ∈ Region.ready md ops listed → B w := fun listed w ha hcl hr => ha (t, B) hB (by
    cases hl : listed.getD t false with
    | false => rfl
    | true =>
      cases ho : ops[t]? with
      | none => exact (ht (by simpa using ho)).elim
      | some ot =>
        have := waits_listed hcl g t ot ho (fun e he hb => hcl t ot ho hl e he hb) hw
        rw [getD_true_false (mem_ready.1 hr).1] at this
        cases this)
  intro f
  induction f with
  | zero =>
    intro listed a w hsz ha hcl _ hr hy H
    refine ⟨fun h => (by rw [h] at hr; cases hr), fun j hj => ?_⟩
    by_cases hji : j = i
    · subst hji; exact hy.op hF hi hdi (key _ _ ha hcl hr) ⟨ha.set, H⟩
    · have := ready_mono hj hji
      rw [H.1] at this
      cases this
  | succ f ih =>
    intro listed a w hsz ha hcl hfree hr hy H
    refine ⟨fun h => (by rw [h] at hr; cases hr), fun j hj => ?_⟩
    by_cases hji : j = i
    · subst hji; exact hy.op hF hi hdi (key _ _ ha hcl hr) ⟨ha.set, H⟩
    · have h1 := H.2 j (ready_mono hj hji)
      obtain ⟨hjun, oj, hoj, hall⟩ := mem_ready.1 hj
      obtain ⟨hsj, hdj⟩ := plainB_spec hpl j oj hoj
      have hnot : ∀ e ∈ oj.after, Region.binds md e = true → e.on ≠ i := fun e he hb heq => by
        have h1 := hall e he hb
        have h0 := (mem_ready.1 hr).1
        rw [heq, getD_true_false h0] at h1
        cases h1
      have h2 := wpOpIn_putB hF hoj (hfree j oj hoj hji hjun hnot) hsi hsj hdj hy h1
      have hfree' : ∀ k ok, ops[k]? = some ok → k ≠ i → (listed.setIfInBounds j true).getD k true = false →
          (∀ e ∈ ok.after, Region.binds md e = true → e.on ≠ i) → oi.apart ops ok = true := fun k ok hk hki hun hno => by
        refine hfree k ok hk hki ?_ hno
        by_cases hjk : j = k
        · subst hjk; exact hjun
        · rw [getD_set_ne true hjk] at hun; exact hun
      refine wpOpIn_weaken (fun a' w' h3 => ?_) h2
      have ha' : AllF Bs (listed.setIfInBounds j true) w' := fun p hp hl => h3.2.1 p hp (by
        rw [Array.setIfInBounds_comm _ _ (Ne.symm hji), getD_set_ne false (fun e => hni p hp e.symm)]; exact hl)
      refine ⟨ha', ih (listed.setIfInBounds j true) a' w' (by simpa using hsz) ha' (hcl.set hj) hfree' (ready_mono hr (Ne.symm hji)) h3.1 ?_⟩
      rw [Array.setIfInBounds_comm _ _ hji]
      exact h3.2.2

/-- The walk: (i, some t): quiet by the fact of t, taken first; (i, none): forced. -/
def wpMiy (F : Fence) (n : Nat) (P : Program) (ops : Array Oper) (Bs : List (Nat × (World → Prop))) (Q : Act → World → Prop) : List (Nat × Option Nat) → Array Bool → Act → World → Prop
  | [], _, a, w => Q a w
  | (i, some t) :: rest, listed, a, w => ∃ o, ops[i]? = some o ∧ ∃ v B, (t, B) ∈ Bs ∧ QuietB P ops B o a v ∧ wpMiy F n P ops Bs Q rest (listed.setIfInBounds i true) (a.put o.dst v) w
  | (i, none) :: rest, listed, a, w => ∃ o, ops[i]? = some o ∧ wpOpIn F n P ops noExit i (fun a' w' => AllF Bs (listed.setIfInBounds i true) w' ∧ wpMiy F n P ops Bs Q rest (listed.setIfInBounds i true) a' w') a w
def miyFrom (md : Region.Mode) (ops : Array Oper) (K : List Nat) : List (Nat × Option Nat) → Array Bool → Bool
  | [], listed => (Region.ready md ops listed).isEmpty
  | (i, some t) :: rest, listed => (Region.ready md ops listed).contains i && Region.free md ops listed i && waitsB md ops ops.size t i && decide (t < ops.size) && !K.contains i && miyFrom md ops K rest (listed.setIfInBounds i true)
  | (i, none) :: rest, listed => Region.ready md ops listed == [i] && miyFrom md ops K rest (listed.setIfInBounds i true)
theorem anyF_of_miy (hF : ∀ f, F.fn f) (hpl : plainB ops = true) : ∀ (l : List (Nat × Option Nat)) (listed : Array Bool) (a : Act) (w : World), listed.size = ops.size → AllF Bs listed w → Closed md ops listed → miyFrom md ops (Bs.map (·.1)) l listed = true → wpMiy F n P ops Bs Q l listed a w →
    anyF F n P md ops Bs Q l.length listed a w
  | [], _, _, _, _, _, _, hc, h => ⟨by simpa [miyFrom] using hc, h⟩
  | (i, some t) :: rest, listed, a, w, hsz, hB, hcl, hc, ⟨o, ho, v, B, hm, hq, h⟩ => by
    simp only [miyFrom, Bool.and_eq_true, decide_eq_true_eq, Bool.not_eq_true'] at hc
    obtain ⟨⟨⟨⟨⟨h1, h2⟩, h3⟩, h4⟩, h5⟩, h6⟩ := hc
    have hr : i ∈ Region.ready md ops listed := by simpa using h1
    exact anyF_first hF ho hpl ops.size h3 (fun h => by omega) hm (fun p hp e => by
      have : (Bs.map (·.1)).contains i = true := by simp only [List.contains_eq_mem, decide_eq_true_eq]; exact List.mem_map.2 ⟨p, hp, e⟩
      rw [h5] at this; cases this) rest.length listed a w hsz hB hcl (Region.free_spec ho h2) hr hq
      (anyF_of_miy hF hpl rest _ _ w (by simpa using hsz) hB.set (hcl.set hr) h6 h)
  | (i, none) :: rest, listed, a, w, hsz, hB, hcl, hc, ⟨o, ho, h⟩ => by
    simp only [miyFrom, Bool.and_eq_true, beq_iff_eq] at hc
    refine ⟨fun h0 => (by rw [h0] at hc; cases hc.1), fun j hj => ?_⟩
    have hr : i ∈ Region.ready md ops listed := by rw [hc.1]; simp
    rw [hc.1] at hj
    obtain rfl : j = i := by simpa using hj
    exact wpOpIn_weaken (fun a' w' h3 => ⟨h3.1, anyF_of_miy hF hpl rest _ a' w' (by simpa using hsz) h3.1 (hcl.set hr) hc.2 h3.2⟩) h
theorem wpIn_region_miy {id : Nat} {l : List Oper} {Q' : Exit → Act → World → Prop} {a : Act} {w : World} (Bs : List (Nat × (World → Prop))) (pi : List (Nat × Option Nat)) (hF : ∀ f, F.fn f) (hm : P.follows .mixedOrders = true)
    (hpl : plainB l.toArray = true) (hlen : pi.length = l.length) (hc : miyFrom .any l.toArray (Bs.map (·.1)) pi (Array.replicate l.length false) = true) (hB : ∀ p ∈ Bs, p.2 w.drew)
    (h : wpMiy F n P l.toArray Bs (fun a' w' => Q' .normal a' w') pi (Array.replicate l.length false) a w.drew) : (Code.region id l.toArray true).wpIn F n P Q' a w := by
  refine wpIn_region_any hm ?_
  have hcl : Closed .any l.toArray (Array.replicate l.length false) := fun j oj _ hl => by
    rcases Nat.lt_or_ge j l.length with h | h
    · simp [h] at hl
    · simp [h] at hl
  have := anyF_sound (Q' := Q') (fun _ _ h => h) _ _ _ _ (anyF_of_miy hF hpl pi (Array.replicate l.length false) a w.drew (by simp) (fun p hp _ => hB p hp) hcl hc h)
  rw [hlen] at this
  exact this
theorem miy_nil {listed : Array Bool} {a : Act} {w : World} (h : Q a w) : wpMiy F n P ops Bs Q [] listed a w := h
theorem miy_q {l : List Oper} {i t : Nat} {rest : List (Nat × Option Nat)} {listed : Array Bool} {o : Oper} {v : Value} {a : Act} {w : World} (B : World → Prop) (hm : (t, B) ∈ Bs) (ho : l[i]? = some o) (hg : Region.wanted o (yielded l.toArray a.tmps) = true) (hq : ∀ w, B w → (execOp a.eval o).run P w = .ok (.value v) w)
    (h : wpMiy F n P l.toArray Bs Q rest (listed.setIfInBounds i true) (a.put o.dst v) w) : wpMiy F n P l.toArray Bs Q ((i, some t) :: rest) listed a w := ⟨o, by simpa using ho, v, B, hm, Or.inl ⟨hg, hq⟩, h⟩
theorem miy_e {l : List Oper} {i : Nat} {rest : List (Nat × Option Nat)} {listed : Array Bool} {o : Oper} {a : Act} {w : World} (ho : l[i]? = some o) (hg : Region.wanted o (yielded l.toArray a.tmps) = true)
    (h : o.wpIn F n P a w (fun a' w' => AllF Bs (listed.setIfInBounds i true) w' ∧ wpMiy F n P l.toArray Bs Q rest (listed.setIfInBounds i true) a' w') noExit) : wpMiy F n P l.toArray Bs Q ((i, none) :: rest) listed a w :=
  have ho' : l.toArray[i]? = some o := by simpa using ho
  ⟨o, ho', by unfold wpOpIn; simp only [ho', hg, if_true]; exact h⟩
end
end Go.Proofs.Ytcieggaihelacaa
