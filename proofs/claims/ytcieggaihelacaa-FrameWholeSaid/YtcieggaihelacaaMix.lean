/- A region that draws its order of evaluation, inside a fence: operations that yield one value in every world of a class may be taken first; the others stand in a forced order. -/
import Derived.Test.YtcieggaihelacaaBase
import Derived.OrdersIn
set_option linter.unusedSimpArgs false
set_option linter.unusedVariables false
namespace Go.Proofs.Ytcieggaihelacaa
open Go.RowKit
section
variable {F : Fence} {n : Nat} {P : Program} {ops : Array Oper} {md : Region.Mode} {B : World → Prop} {Q : Act → World → Prop} {T : List Nat}

def noExit : Exit → Act → World → Prop := fun _ _ _ => False

theorem wpIn_weaken {o : Oper} {a : Act} {w : World} {K K' : Act → World → Prop} {Q' : Exit → Act → World → Prop} (h : ∀ a w, K a w → K' a w)
    (hh : o.wpIn F n P a w K noExit) : o.wpIn F n P a w K' Q' := by
  unfold Oper.wpIn at *
  refine ⟨hh.1, ?_⟩
  have hh := hh.2
  generalize (o.semAt F.round a.eval).run P w = r at *
  cases r with
  | ok x w' =>
    cases x <;> simp only [Oper.uponIn] at hh ⊢ <;>
      first
        | exact h _ _ hh
        | exact ⟨hh.1, CallsIn.mono hh.2 (fun e w'' he => by cases e <;> first | exact h _ _ he | exact he.elim | exact he.elim fun _ h => h.elim fun _ h => h.elim)⟩
        | exact ⟨hh.1, RowsIn.mono hh.2 (fun _ _ he => h _ _ he)⟩
        | exact ⟨hh.1, RoundIn.mono hh.2 (fun e w'' he => by cases e <;> first | exact h _ _ he | exact he.elim | exact he.elim fun _ h => h.elim fun _ h => h.elim)⟩
  | halt x w' => cases x <;> simp only [Oper.uponIn] at hh ⊢ <;> exact hh.elim

theorem wpOpIn_weaken {i : Nat} {a : Act} {w : World} {K K' : Act → World → Prop} {Q' : Exit → Act → World → Prop} (h : ∀ a w, K a w → K' a w)
    (hh : wpOpIn F n P ops noExit i K a w) : wpOpIn F n P ops Q' i K' a w := by
  unfold wpOpIn at *
  split
  · exact h _ _ (by simpa [*] using hh)
  · rename_i o ho
    simp only [ho] at hh
    split
    · rename_i hw; simp only [hw, if_true] at hh; exact wpIn_weaken h hh
    · rename_i hw; simp only [hw] at hh; exact ⟨hh.1, h _ _ hh.2⟩

def anyB (F : Fence) (n : Nat) (P : Program) (md : Region.Mode) (ops : Array Oper) (B : World → Prop) (T : List Nat) (Q : Act → World → Prop) : Nat → Array Bool → Act → World → Prop
  | 0, listed, a, w => Region.ready md ops listed = [] ∧ Q a w
  | f + 1, listed, a, w => (Region.ready md ops listed = [] → Q a w) ∧
    ∀ i ∈ Region.ready md ops listed, wpOpIn F n P ops noExit i (fun a' w' => (i ∉ T → B w') ∧ anyB F n P md ops B T Q f (listed.setIfInBounds i true) a' w') a w

theorem anyB_sound {Q' : Exit → Act → World → Prop} (hQ : ∀ a w, Q a w → Q' .normal a w) : ∀ (f : Nat) (listed : Array Bool) (a : Act) (w : World),
    anyB F n P md ops B T Q f listed a w → wpAnyIn F n P md ops Q' f listed a w
  | 0, _, _, _, h => ⟨h.1, hQ _ _ h.2⟩
  | f + 1, _, _, _, h => ⟨fun h0 => hQ _ _ (h.1 h0), fun i hi => wpOpIn_weaken (fun a' w' h' => anyB_sound hQ f _ a' w' h'.2) (h.2 i hi)⟩

/-- In every world of the class the operation yields v and leaves the world alone. -/
def QuietB (P : Program) (ops : Array Oper) (B : World → Prop) (o : Oper) (a : Act) (v : Value) : Prop :=
  (Region.wanted o (yielded ops a.tmps) = true ∧ ∀ w, B w → (execOp a.eval o).run P w = .ok (.value v) w) ∨ (Region.wanted o (yielded ops a.tmps) = false ∧ v = undef)

def plainB (ops : Array Oper) : Bool := ops.all fun o => match o.op with | .select .. => false | .defer .. => false | _ => true
theorem plainB_spec (h : plainB ops = true) (j : Nat) (o : Oper) (ho : ops[j]? = some o) : (∀ cs b, o.op ≠ .select cs b) ∧ (∀ c, o.op ≠ .defer c) := by
  have := Array.all_eq_true_iff_forall_mem.1 h o (Array.mem_of_getElem? ho)
  exact ⟨fun cs b e => by simp [e] at this, fun c e => by simp [e] at this⟩

theorem QuietB.op {i : Nat} {o : Oper} {v : Value} {a : Act} {w : World} (hF : ∀ f, F.fn f) (hi : ops[i]? = some o) (hd : ∀ c, o.op ≠ .defer c) (hy : QuietB P ops B o a v) (hw : B w)
    {K : Act → World → Prop} {Q' : Exit → Act → World → Prop} (h : K (a.put o.dst v) w) : wpOpIn F n P ops Q' i K a w := by
  unfold wpOpIn
  simp only [hi]
  rcases hy with ⟨h1, h2⟩ | ⟨h1, rfl⟩
  · simp only [h1, if_true, Oper.wpIn, Oper.semAt_plain F _ _ hd, h2 w hw, Oper.uponIn]; exact ⟨fun f _ => hF f, h⟩
  · simp only [h1, Bool.false_eq_true, if_false]; exact ⟨fun f _ => hF f, h⟩

theorem QuietB.put {o : Oper} {v u : Value} {a : Act} {d : Option Tmp} (hs : ∀ cs b, o.op ≠ .select cs b) (h : ∀ x, d = some x → x ∉ o.looksAt ops) (hy : QuietB P ops B o a v) : QuietB P ops B o (a.put d u) v := by
  unfold QuietB at *
  rw [execOp_put o hs a d u h, wanted_put o a d u h]
  exact hy

theorem wpOpIn_putB {j : Nat} {oi oj : Oper} {v : Value} (hF : ∀ f, F.fn f) (hj : ops[j]? = some oj) (hap : oi.apart ops oj = true)
    (hsi : ∀ cs b, oi.op ≠ .select cs b) (hsj : ∀ cs b, oj.op ≠ .select cs b) (hdj : ∀ c, oj.op ≠ .defer c) {K : Act → World → Prop} {a : Act} {w : World}
    (hy : QuietB P ops B oi a v) (h : wpOpIn F n P ops noExit j K (a.put oi.dst v) w) :
    wpOpIn F n P ops noExit j (fun a' w' => QuietB P ops B oi a' v ∧ K (a'.put oi.dst v) w') a w := by
  obtain ⟨h1, h2, h3⟩ := Oper.apart_spec hap
  have keep : ∀ u, QuietB P ops B oi (a.put oj.dst u) v := fun u => hy.put hsi h3
  unfold wpOpIn at *
  simp only [hj] at *
  rw [wanted_put oj a oi.dst v h1] at h
  split
  · rename_i hw
    simp only [hw, if_true] at h
    unfold Oper.wpIn at *
    refine ⟨fun f _ => hF f, ?_⟩
    have h := h.2
    rw [Oper.semAt_plain F _ _ hdj, execOp_put oj hsj a oi.dst v h1] at h
    rw [Oper.semAt_plain F _ _ hdj]
    generalize (execOp a.eval oj).run P w = r at *
    cases r with
    | ok x w' =>
      cases x <;> simp only [Oper.uponIn] at h ⊢
      case value u => exact ⟨keep u, by rw [← Act.put_comm a v u h2]; exact h⟩
      case skip => exact ⟨keep _, by rw [← Act.put_comm a v undef h2]; exact h⟩
      case defer d =>
        refine ⟨?_, ?_⟩
        · exact QuietB.put hsi h3 (show QuietB P ops B oi { a with defers := d :: a.defers } v from hy)
        · rw [← Act.put_comm _ v undef h2, ← Act.put_defers]
          exact h
      case enter f args =>
        refine ⟨h.1, CallsIn.mono h.2 fun e w'' he => ?_⟩
        cases e with
        | returned u => exact ⟨keep u, by rw [← Act.put_comm a v u h2]; exact he⟩
        | panicked c => exact he
        | outgrown => exact he
      case row row args => exact ⟨h.1, RowsIn.mono h.2 fun u w'' he => ⟨keep u, by rw [← Act.put_comm a v u h2]; exact he⟩⟩
      case round l f tmps assign body =>
        refine ⟨h.1, RoundIn.mono h.2 fun e w'' he => ?_⟩
        cases e with
        | returned u => exact ⟨keep u, by rw [← Act.put_comm a v u h2]; exact he⟩
        | panicked c => exact he
        | outgrown => exact he
    | halt x w' => cases x <;> simp only [Oper.uponIn] at h ⊢ <;> exact h.elim
  · rename_i hw
    simp only [hw] at h
    exact ⟨fun f _ => hF f, keep _, by rw [← Act.put_comm a v undef h2]; exact h.2⟩

/-- t stands behind i, by the edges that bind. -/
def waitsB (md : Region.Mode) (ops : Array Oper) : Nat → Nat → Nat → Bool
  | 0, _, _ => false
  | f + 1, t, i => match ops[t]? with
    | some o => o.after.any fun e => Region.binds md e && (e.on == i || waitsB md ops f e.on i)
    | none => false
def Closed (md : Region.Mode) (ops : Array Oper) (listed : Array Bool) : Prop :=
  ∀ j oj, ops[j]? = some oj → listed.getD j false = true → ∀ e ∈ oj.after, Region.binds md e = true → listed.getD e.on false = true
theorem waits_listed {listed : Array Bool} (hc : Closed md ops listed) {i : Nat} : ∀ (f t : Nat) (o : Oper), ops[t]? = some o → (∀ e ∈ o.after, Region.binds md e = true → listed.getD e.on false = true) → waitsB md ops f t i = true → listed.getD i false = true
  | 0, _, _, _, _, h => by simp [waitsB] at h
  | f + 1, t, o, ho, hall, h => by
    simp only [waitsB, ho] at h
    obtain ⟨e, he, hb⟩ := Array.any_eq_true'.1 h
    simp only [Bool.and_eq_true, Bool.or_eq_true, beq_iff_eq] at hb
    have hl := hall e he hb.1
    rcases hb.2 with h1 | h1
    · rw [← h1]; exact hl
    · cases ho' : ops[e.on]? with
      | none =>
        cases f with
        | zero => simp [waitsB] at h1
        | succ f => simp [waitsB, ho'] at h1
      | some o' => exact waits_listed hc f e.on o' ho' (fun e' he' hb' => hc e.on o' ho' hl e' he' hb') h1
theorem Closed.set {listed : Array Bool} {i : Nat} (hc : Closed md ops listed) (hi : i ∈ Region.ready md ops listed) : Closed md ops (listed.setIfInBounds i true) := by
  obtain ⟨_, oi, hoi, hall⟩ := mem_ready.1 hi
  intro j oj hj hl e he hb
  by_cases hij : i = j
  · subst hij
    have : oj = oi := Option.some.inj (hj.symm.trans hoi)
    subst this
    exact getD_set_true (hall e he hb)
  · rw [getD_set_ne false hij] at hl
    exact getD_set_true (hc j oj hj hl e he hb)
theorem getD_true_false {listed : Array Bool} {i : Nat} (h : listed.getD i true = false) : listed.getD i false = false := by
  rcases Nat.lt_or_ge i listed.size with h' | h'
  · simp [h'] at h ⊢; exact h
  · simp [Array.getElem?_eq_none h'] at h

theorem anyB_first {i : Nat} {oi : Oper} {v : Value} (hF : ∀ f, F.fn f) (hi : ops[i]? = some oi) (hpl : plainB ops = true) (g : Nat) (hT : ∀ t, t ∈ T → waitsB md ops g t i = true) :
    ∀ (f : Nat) (listed : Array Bool) (a : Act) (w : World), B w → Closed md ops listed →
      (∀ j oj, ops[j]? = some oj → j ≠ i → listed.getD j true = false → (∀ e ∈ oj.after, Region.binds md e = true → e.on ≠ i) → oi.apart ops oj = true) →
      i ∈ Region.ready md ops listed → QuietB P ops B oi a v →
      anyB F n P md ops B T Q f (listed.setIfInBounds i true) (a.put oi.dst v) w → anyB F n P md ops B T Q (f + 1) listed a w := by
  obtain ⟨hsi, hdi⟩ := plainB_spec hpl i oi hi
  intro f
  induction f with
  | zero =>
    intro listed a w hB _ _ hr hy H
    refine ⟨fun h => (by rw [h] at hr; cases hr), fun j hj => ?_⟩
    by_cases hji : j = i
    · subst hji; exact hy.op hF hi hdi hB ⟨fun _ => hB, H⟩
    · have := ready_mono hj hji
      rw [H.1] at this
      cases this
  | succ f ih =>
    intro listed a w hB hcl hfree hr hy H
    refine ⟨fun h => (by rw [h] at hr; cases hr), fun j hj => ?_⟩
    by_cases hji : j = i
    · subst hji; exact hy.op hF hi hdi hB ⟨fun _ => hB, H⟩
    · have h1 := H.2 j (ready_mono hj hji)
      obtain ⟨hjun, oj, hoj, hall⟩ := mem_ready.1 hj
      obtain ⟨hsj, hdj⟩ := plainB_spec hpl j oj hoj
      have hjT : j ∉ T := fun hm => by
        have := waits_listed hcl g j oj hoj hall (hT j hm)
        rw [getD_true_false (mem_ready.1 hr).1] at this
        cases this
      have hnot : ∀ e ∈ oj.after, Region.binds md e = true → e.on ≠ i := fun e he hb heq => by
        have h1 := hall e he hb
        have h0 := (mem_ready.1 hr).1
        rw [heq, getD_true_false h0] at h1
        cases h1
      have h2 := wpOpIn_putB hF hoj (hfree j oj hoj hji hjun hnot) hsi hsj hdj hy h1
      have hfree' : ∀ k ok, ops[k]? = some ok → k ≠ i → (listed.setIfInBounds j true).getD k true = false →
          (∀ e ∈ ok.after, Region.binds md e = true → e.on ≠ i) → oi.apart ops ok = true := fun k ok hk hki hun hno => by
        refine hfree k ok hk hki ?_ hno
        by_cases hjk : j = k
        · subst hjk; exact hjun
        · rw [getD_set_ne true hjk] at hun; exact hun
      refine wpOpIn_weaken (fun a' w' h3 => ⟨h3.2.1, ih (listed.setIfInBounds j true) a' w' (h3.2.1 hjT) (hcl.set hj) hfree' (ready_mono hr (Ne.symm hji)) h3.1 ?_⟩) h2
      rw [Array.setIfInBounds_comm _ _ hji]
      exact h3.2.2

/-- The walk: operations by number; true: taken first; false: it stands in a forced order. T: the last ones, behind which nothing more is asked of the world. -/
def wpMix (F : Fence) (n : Nat) (P : Program) (ops : Array Oper) (B : World → Prop) (T : List Nat) (Q : Act → World → Prop) : List (Nat × Bool) → Act → World → Prop
  | [], a, w => Q a w
  | (i, q) :: rest, a, w => ∃ o, ops[i]? = some o ∧
    if q then ∃ v, QuietB P ops B o a v ∧ wpMix F n P ops B T Q rest (a.put o.dst v) w
    else wpOpIn F n P ops noExit i (fun a' w' => (i ∉ T → B w') ∧ wpMix F n P ops B T Q rest a' w') a w

def mixFrom (md : Region.Mode) (ops : Array Oper) (T : List Nat) : List (Nat × Bool) → Array Bool → Bool
  | [], listed => (Region.ready md ops listed).isEmpty
  | (i, q) :: rest, listed => (if q then (Region.ready md ops listed).contains i && Region.free md ops listed i && T.all (fun t => waitsB md ops ops.size t i) else Region.ready md ops listed == [i] && (!T.contains i || !rest.any (·.2))) && mixFrom md ops T rest (listed.setIfInBounds i true)

theorem anyB_of_mix (hF : ∀ f, F.fn f) (hpl : plainB ops = true) : ∀ (l : List (Nat × Bool)) (listed : Array Bool) (a : Act) (w : World), (l.any (·.2) = true → B w) → Closed md ops listed → mixFrom md ops T l listed = true → wpMix F n P ops B T Q l a w →
    anyB F n P md ops B T Q l.length listed a w
  | [], _, _, _, _, _, hc, h => ⟨by simpa [mixFrom] using hc, h⟩
  | (i, true) :: rest, listed, a, w, hB, hcl, hc, ⟨o, ho, v, hq, h⟩ => by
    simp only [mixFrom, if_true, Bool.and_eq_true] at hc
    have hB' : B w := hB (by simp)
    have hr : i ∈ Region.ready md ops listed := by simpa using hc.1.1.1
    exact anyB_first hF ho hpl ops.size (fun t ht => List.all_eq_true.1 hc.1.2 t ht) rest.length listed a w hB' hcl (Region.free_spec ho hc.1.1.2) hr hq (anyB_of_mix hF hpl rest _ _ w (fun _ => hB') (hcl.set hr) hc.2 h)
  | (i, false) :: rest, listed, a, w, hB, hcl, hc, ⟨o, ho, h⟩ => by
    simp only [mixFrom, Bool.false_eq_true, if_false, Bool.and_eq_true, beq_iff_eq, Bool.or_eq_true, Bool.not_eq_true'] at hc
    refine ⟨fun h0 => (by rw [h0] at hc; cases hc.1.1), fun j hj => ?_⟩
    have hr : i ∈ Region.ready md ops listed := by rw [hc.1.1]; simp
    rw [hc.1.1] at hj
    obtain rfl : j = i := by simpa using hj
    simp only [Bool.false_eq_true, if_false] at h
    refine wpOpIn_weaken (fun a' w' h3 => ⟨h3.1, anyB_of_mix hF hpl rest _ a' w' (fun hq => h3.1 (fun hm => ?_)) (hcl.set hr) hc.2 h3.2⟩) h
    rcases hc.1.2 with h1 | h1
    · have : T.contains j = true := by simpa using hm
      rw [h1] at this; cases this
    · rw [hq] at h1; cases h1

theorem wpIn_region_mix {id : Nat} {l : List Oper} {Q' : Exit → Act → World → Prop} {a : Act} {w : World} (B : World → Prop) (T : List Nat) (pi : List (Nat × Bool)) (hF : ∀ f, F.fn f) (hm : P.follows .mixedOrders = true)
    (hpl : plainB l.toArray = true) (hlen : pi.length = l.length) (hc : mixFrom .any l.toArray T pi (Array.replicate l.length false) = true) (hB : B w.drew)
    (h : wpMix F n P l.toArray B T (fun a' w' => Q' .normal a' w') pi a w.drew) : (Code.region id l.toArray true).wpIn F n P Q' a w := by
  refine wpIn_region_any hm ?_
  have hcl : Closed .any l.toArray (Array.replicate l.length false) := fun j oj _ hl => by
    rcases Nat.lt_or_ge j l.length with h | h
    · simp [h] at hl
    · simp [h] at hl
  have := anyB_sound (Q' := Q') (fun _ _ h => h) _ _ _ _ (anyB_of_mix hF hpl pi (Array.replicate l.length false) a w.drew (fun _ => hB) hcl hc h)
  rw [hlen] at this
  exact this

/-- The same outside a fence. -/
theorem wp_region_mix {id : Nat} {l : List Oper} {Q' : Exit → Act → World → Prop} {a : Act} {w : World} (B : World → Prop) (T : List Nat) (pi : List (Nat × Bool)) (hm : P.follows .mixedOrders = true)
    (hpl : plainB l.toArray = true) (hlen : pi.length = l.length) (hc : mixFrom .any l.toArray T pi (Array.replicate l.length false) = true) (hB : B w.drew)
    (h : wpMix Fence.wide 0 P l.toArray B T (fun a' w' => Q' .normal a' w') pi a w.drew) : (Code.region id l.toArray true).wp P Q' a w :=
  wpIn_wide.1 (wpIn_region_mix B T pi (fun _ => trivial) hm hpl hlen hc hB h)

theorem mix_nil {a : Act} {w : World} (h : Q a w) : wpMix F n P ops B T Q [] a w := h
theorem mix_q {l : List Oper} {i : Nat} {rest : List (Nat × Bool)} {o : Oper} {v : Value} {a : Act} {w : World} (ho : l[i]? = some o) (hg : Region.wanted o (yielded l.toArray a.tmps) = true) (hq : ∀ w, B w → (execOp a.eval o).run P w = .ok (.value v) w)
    (h : wpMix F n P l.toArray B T Q rest (a.put o.dst v) w) : wpMix F n P l.toArray B T Q ((i, true) :: rest) a w := ⟨o, by simpa using ho, v, Or.inl ⟨hg, hq⟩, h⟩
theorem mix_qs {l : List Oper} {i : Nat} {rest : List (Nat × Bool)} {o : Oper} {a : Act} {w : World} (ho : l[i]? = some o) (hg : Region.wanted o (yielded l.toArray a.tmps) = false)
    (h : wpMix F n P l.toArray B T Q rest (a.put o.dst undef) w) : wpMix F n P l.toArray B T Q ((i, true) :: rest) a w := ⟨o, by simpa using ho, undef, Or.inr ⟨hg, rfl⟩, h⟩
theorem mix_e {l : List Oper} {i : Nat} {rest : List (Nat × Bool)} {o : Oper} {a : Act} {w : World} (ho : l[i]? = some o) (hg : Region.wanted o (yielded l.toArray a.tmps) = true)
    (h : o.wpIn F n P a w (fun a' w' => (i ∉ T → B w') ∧ wpMix F n P l.toArray B T Q rest a' w') noExit) : wpMix F n P l.toArray B T Q ((i, false) :: rest) a w :=
  have ho' : l.toArray[i]? = some o := by simpa using ho
  ⟨o, ho', by simp only [Bool.false_eq_true, if_false]; unfold wpOpIn; simp only [ho', hg, if_true]; exact h⟩
theorem mix_es {l : List Oper} {i : Nat} {rest : List (Nat × Bool)} {o : Oper} {a : Act} {w : World} (hF : ∀ f, F.fn f) (ho : l[i]? = some o) (hg : Region.wanted o (yielded l.toArray a.tmps) = false) (hB : B w)
    (h : wpMix F n P l.toArray B T Q rest (a.put o.dst undef) w) : wpMix F n P l.toArray B T Q ((i, false) :: rest) a w :=
  have ho' : l.toArray[i]? = some o := by simpa using ho
  ⟨o, ho', by simp only [Bool.false_eq_true, if_false]; unfold wpOpIn; simp only [ho', hg, Bool.false_eq_true, if_false]; exact ⟨fun f _ => hF f, fun _ => hB, h⟩⟩
end
end Go.Proofs.Ytcieggaihelacaa
