/- A range over a function, where the iterator hands on a known list: one law for a loop, whether it stands in a round or not. -/
import Derived.Test.YtcieggaihelacaaBta
import Derived.RangeFuncNested
import Derived.RangeFuncLeaves
set_option linter.unusedSimpArgs false
set_option linter.unusedVariables false
namespace Go.Proofs.Ytcieggaihelacaa
open Go.RowKit Go.Shelf
/-- What a round keeps: each row of cells that is none of the caller's own (S). -/
structure KC (S : Nat → Prop) (W W' : World) : Prop where
  size : W.heap.size ≤ W'.heap.size
  cells : ∀ (k : Nat) (o : Obj), W.heap[k]? = some o → o.isCells = true → ¬ S k → W'.heap[k]? = some o
theorem KC.refl (S : Nat → Prop) (W : World) : KC S W W := ⟨Nat.le_refl _, fun _ _ h _ _ => h⟩
theorem KC.trans {S : Nat → Prop} {A B C : World} (h : KC S A B) (k : KC S B C) : KC S A C := ⟨Nat.le_trans h.size k.size, fun i o hi ho hs => k.cells i o (h.cells i o hi ho hs) ho hs⟩
theorem KC.book {S : Nat → Prop} {W : World} {l : Nat} {o : Obj} (o' : Obj) (h : W.heap[l]? = some o) (hc : o.isCells = false) : KC S W (W.putObj l o') :=
  ⟨by simp, fun k o'' hk ho _ => by
    by_cases e : k = l
    · subst e; rw [h] at hk; cases hk; rw [hc] at ho; cases ho
    · exact (World.putObj_heap_other e).trans hk⟩
theorem KC.grown {S : Nat → Prop} {W W' : World} {row : Option Nat} (hg : W.grownBy W' row) (hr : ∀ k, row = some k → S k) : KC S W W' :=
  ⟨hg.size, fun _ _ hk _ hs => (hg.block _ (blk_lt hk) (fun e => hs (hr _ e.symm))).trans hk⟩
theorem KC.mono {S S' : Nat → Prop} {W W' : World} (h : KC S W W') (hs : ∀ k, S k → S' k) : KC S' W W' := ⟨h.size, fun k o hk ho hn => h.cells k o hk ho (fun e => hn (hs k e))⟩

/-- Beside it: whatever is no cells and lies at or beyond B lies as it lay. -/
structure KB (S : Nat → Prop) (B : Nat) (W W' : World) : Prop where
  kc : KC S W W'
  keeps : KeepsFrom B W W'
theorem KB.refl (S : Nat → Prop) (B : Nat) (W : World) : KB S B W W := ⟨KC.refl S W, KeepsFrom.refl B W⟩
theorem KB.trans {S : Nat → Prop} {B : Nat} {X Y Z : World} (h : KB S B X Y) (k : KB S B Y Z) : KB S B X Z := ⟨h.kc.trans k.kc, h.keeps.trans k.keeps⟩
theorem KB.grown {S : Nat → Prop} {B : Nat} {W W' : World} {row : Option Nat} (hg : W.grownBy W' row) (hr : ∀ k, row = some k → S k ∧ k < B) : KB S B W W' :=
  ⟨KC.grown hg (fun k e => (hr k e).1), KeepsFrom.of_grownBy hg (fun k e => (hr k e).2)⟩
theorem KB.mono {S : Nat → Prop} {B B' : Nat} {W W' : World} (h : KB S B W W') (hB : B ≤ B') : KB S B' W W' := ⟨h.kc, ⟨h.keeps.size, fun k o hk => h.keeps.same k o (Nat.le_trans hB hk)⟩⟩
theorem KB.book {S : Nat → Prop} {B : Nat} {W : World} {l : Nat} {o : Obj} (o' : Obj) (h : W.heap[l]? = some o) (hc : o.isCells = false) (hl : l < B) : KB S B W (W.putObj l o') :=
  ⟨KC.book _ h hc, KeepsFrom.of_grownBy (grownBy_putObj' W l o') (fun j e => by cases e; exact hl)⟩
theorem KB.none {S : Nat → Prop} {B : Nat} {W W' : World} (hg : W.grownBy W' none) : KB S B W W' := KB.grown hg (fun k e => by cases e)

/-- J abides new blocks, the turn of a block that is no cells at or beyond B, and of the iterator's own rows (T). -/
def Ab (B : Nat) (T : Nat → Prop) (J : Nat → World → Prop) : Prop :=
  ∀ k W W' row, J k W → W.grownBy W' row → (∀ r, row = some r → T r ∨ (B ≤ r ∧ ∃ o : Obj, W.heap[r]? = some o ∧ o.isCells = false)) → J k W'
theorem Ab.new {B : Nat} {T : Nat → Prop} {J : Nat → World → Prop} (h : Ab B T J) {k : Nat} {W W' : World} (hj : J k W) (hg : W.grownBy W' none) : J k W' := h k W W' none hj hg (fun r e => by cases e)
theorem Ab.put {B : Nat} {T : Nat → Prop} {J : Nat → World → Prop} (h : Ab B T J) {k : Nat} {W : World} {l : Nat} {o : Obj} (o' : Obj) (hj : J k W) (hl : B ≤ l) (ho : W.heap[l]? = some o) (hc : o.isCells = false) : J k (W.putObj l o') :=
  h k W _ (some l) hj (grownBy_putObj' W l o') (fun r e => by cases e; exact Or.inr ⟨hl, o, ho, hc⟩)
theorem Ab.and {B : Nat} {T : Nat → Prop} {J J' : Nat → World → Prop} (h : Ab B T J) (g : Ab B T J') : Ab B T (fun k W => J k W ∧ J' k W) := fun k W W' row hj hg hr => ⟨h k W W' row hj.1 hg hr, g k W W' row hj.2 hg hr⟩
theorem Ab.pure (B : Nat) (T : Nat → Prop) (p : Nat → Prop) : Ab B T (fun k _ => p k) := fun _ _ _ _ hj _ _ => hj
theorem Ab.never (B : Nat) (T : Nat → Prop) : Ab B T (fun _ _ => False) := fun _ _ _ _ hj _ _ => hj.elim
theorem Ab.mono {B B' : Nat} {T : Nat → Prop} {J : Nat → World → Prop} (h : Ab B T J) (hB : B ≤ B') : Ab B' T J := fun k W W' row hj hg hr => h k W W' row hj hg (fun r e => (hr r e).imp id (fun x => ⟨Nat.le_trans hB x.1, x.2⟩))
theorem Ab.blk {B : Nat} {T : Nat → Prop} {b : Nat → Nat} {o : Nat → Obj} (ho : ∀ k, (o k).isCells = true) (hT : ∀ k, ¬ T (b k)) : Ab B T (fun k W => W.heap[b k]? = some (o k)) := fun k W W' row hj hg hr =>
  blk_kept hj hg (fun e => by
    rcases hr _ e.symm with h | ⟨_, o', h1, h2⟩
    · exact hT k h
    · rw [hj] at h1; cases h1; rw [ho k] at h2; cases h2)
theorem Ab.below {B n0 : Nat} {T : Nat → Prop} {w0 : World} (h0 : n0 ≤ w0.heap.size) (hB : n0 ≤ B) (hT : ∀ r, T r → n0 ≤ r) : Ab B T (fun _ W => Below n0 w0 W) := fun _ _ _ _ hj hg hr =>
  hj.grown hg (Nat.le_trans h0 hj.size) (fun r e => (hr r e).elim (hT r) (fun x => Nat.le_trans hB x.1))
theorem Ab.grown {B : Nat} {T : Nat → Prop} {w0 : World} {row0 : Option Nat} (hB : w0.heap.size ≤ B) (hT : ∀ r, T r → w0.heap.size ≤ r) : Ab B T (fun _ W => w0.grownBy W row0) := fun _ _ W' row hj hg hr =>
  ⟨hg.os.trans hj.os, hg.tape.trans hj.tape, hg.output.trans hj.output, Nat.le_trans hj.size hg.size, fun k hk hne => (hg.block k (Nat.lt_of_lt_of_le hk hj.size) (fun e => by
    rcases hr k e.symm with h | ⟨h, _⟩
    · have := hT k h; omega
    · omega)).trans (hj.block k hk hne)⟩

/-- The iterator's word: xs, in its order, to the end, or to a round that says no more. -/
def SeqX (P : Program) (g : Nat) (lb : Array Value) (xs : List (Array Value)) (S T : Nat → Prop) (w : World) : Prop :=
  ∀ (l : Nat) (J Jx : Nat → World → Prop) (W : World), Below w.heap.size w W → Ab W.heap.size T J → Ab W.heap.size T Jx →
    (∀ k x W1, xs[k]? = some x → J k W1 → YieldAt Fence.wide 0 P l x W1 fun e W' => KB S W.heap.size W1 W' ∧ ((e = .returned (.bool true) ∧ J (k + 1) W') ∨ (e = .returned (.bool false) ∧ Jx (k + 1) W'))) →
    J 0 W →
    CallsIn Fence.wide 0 P g (#[.func (.yield l) #[] #[]] ++ lb) W fun e W' => (∃ v, e = .returned v) ∧ (J xs.length W' ∨ ∃ k, 0 < k ∧ k ≤ xs.length ∧ Jx k W')

/-- How the body of a round may be left. -/
def rndPost (S : Nat → Prop) (B : Nat) (I : Nat → World → Prop) (Ix : Code → Nat → World → Prop) (k : Nat) (W : World) : Exit → Act → World → Prop
  | .normal, _, W' => KB S B W W' ∧ I (k + 1) W'
  | .ret, _, W' => KB S B W W' ∧ Ix .ret (k + 1) W'
  | .exit id, _, W' => KB S B W W' ∧ Ix (.exit id) (k + 1) W'
  | .goto t, _, W' => KB S B W W' ∧ Ix (.goto t) (k + 1) W'
  | .panic _, _, _ => False
  | .outgrown, _, _ => False

def WF (ro : Option Nat) : Fence := { Fence.wide with round := ro }

section
variable {P : Program}
theorem range_core {ro : Option Nat} {g : Operand} {ps : Array Tmp} {assign body : Code} {Q : Exit → Act → World → Prop} {a : Act} {w : World} {gf : Nat} {lb : Array Value} (hg : a.eval g = .func (.func gf) #[] lb) (eg : Enters P gf)
    {xs : List (Array Value)} {S T : Nat → Prop} {w0 : World} (hseq : SeqX P gf lb xs S T w0) (hb0 : Below w0.heap.size w0 w) (hps : ∀ (k : Nat) x, xs[k]? = some x → x.size = ps.size) (hT : ∀ k, T k → k < w.heap.size)
    (l : Nat) (mark : List Deferred) (dd : Nat) (W1 : FuncId → World)
    (hent : ∀ fn, (Instr.enterLoop fn a.tmps ps assign body ro).run P w = .ok (l, mark) (W1 fn))
    (hW1 : ∀ fn, (W1 fn).heap[l]? = some (.loop { state := .ready, pending := none, fn, tmps := a.tmps, params := ps, assign, body, defers := dd })) (hb1 : ∀ fn, Below w.heap.size w (W1 fn)) (hl : w.heap.size ≤ l)
    (ex : Nat → Obj → Prop) (hex : ∀ fn k o, ex k o → (W1 fn).heap[k]? = some o ∧ o.isCells = false ∧ w.heap.size ≤ k ∧ k ≠ l)
    (I : Nat → World → Prop) (Ix : Code → Nat → World → Prop) (hI : Ab w.heap.size T I) (hIx : ∀ c, Ab w.heap.size T (Ix c)) (h0 : I 0 w)
    (Aft : Nat → Act → World → Prop) (hAft : ∀ k a', Ab w.heap.size T (fun _ W => Aft k a' W))
    (hassign : ∀ (l' k : Nat) (x : Array Value) (W : World), xs[k]? = some x → I k W →
      assign.wpIn (Fence.wide.inRound l') 0 P (Exit.then (fun a' W' => KB S w.heap.size W W' ∧ Aft k a' W') (fun _ _ _ => False)) { tmps := (ps.zip x).foldl (fun t (p, v) => t.setIfInBounds p v) a.tmps, defers := [] } W)
    (hbody : ∀ (k : Nat) (x : Array Value) (a' : Act) (W : World), xs[k]? = some x → (∃ r, W.heap[l]? = some (.loop r)) → Aft k a' W → body.wpIn (Fence.wide.inRound l) 0 P (rndPost S w.heap.size I Ix k W) a' W)
    (hdone : ∀ (W : World), I xs.length W → (∀ k o, ex k o → W.heap[k]? = some o) → Q .normal { a with defers := mark ++ a.defers } W)
    (hstop : ∀ (c : Code) (k : Nat) (W : World), 0 < k → k ≤ xs.length → Ix c k W → (∀ k o, ex k o → W.heap[k]? = some o) → c.wpIn (WF ro) 0 P Q { a with defers := mark ++ a.defers } W) :
    (Code.rangeFunc g ps assign body).wpIn (WF ro) 0 P Q a w := by
  refine wpIn_rangeFunc ?_
  intro fn _
  obtain ⟨rec, hrec⟩ : ∃ rec : LoopState → Option Code → Loop, rec = fun st pe => { state := st, pending := pe, fn, tmps := a.tmps, params := ps, assign, body, defers := dd } := ⟨_, rfl⟩
  have hL1 : (W1 fn).heap[l]? = some (.loop (rec .ready none)) := by rw [hrec]; exact hW1 fn
  have hlt1 : l < (W1 fn).heap.size := blk_lt hL1
  have hx1 := hex fn
  obtain ⟨V, hV⟩ : ∃ V, W1 fn = V := ⟨_, rfl⟩
  have hbV : Below w.heap.size w V := hV ▸ hb1 fn
  have heV : (Instr.enterLoop fn a.tmps ps assign body ro).run P w = .ok (l, mark) V := hV ▸ hent fn
  rw [hV] at hL1 hlt1 hx1
  have hne : ∀ {A : World} {row : Option Nat} {k : Nat}, (∀ r, row = some r → T r ∨ (V.heap.size ≤ r ∧ ∃ o : Obj, A.heap[r]? = some o ∧ o.isCells = false)) → w.heap.size ≤ k → k < V.heap.size → some k ≠ row := fun hr hk hk2 e => by
    rcases hr _ e.symm with h | ⟨h, _⟩
    · have := hT _ h; omega
    · omega
  refine ⟨l, mark, V, { target := .fn (.func gf) lb, args := #[.func (.yield l) #[] #[]] }, V, gf, #[.func (.yield l) #[] #[]] ++ lb, V, heV, ?_, fun _ _ => trivial, ?_, fun _ => (by rename_i h; cases h), ?_⟩
  · simp only [resolve, hg]
    simp [go_sem]
  · have := eg (#[.func (.yield l) #[] #[]] ++ lb) V
    simp [invoke, go_sem, this]
  · refine (hseq l
      (fun k W => I k W ∧ W.heap[l]? = some (.loop (rec .ready none)) ∧ ∀ k o, ex k o → W.heap[k]? = some o)
      (fun k W => ∃ c, Ix c k W ∧ W.heap[l]? = some (.loop (rec .done (some c))) ∧ ∀ k o, ex k o → W.heap[k]? = some o)
      V (hb0.trans (hbV.mono hb0.size))
      (fun k A B row hs hg' hr => ⟨hI k A B row hs.1 hg' (fun r e => (hr r e).imp id (fun x => ⟨Nat.le_trans hbV.size x.1, x.2⟩)), blk_kept hs.2.1 hg' (hne hr hl hlt1), fun j o hj => blk_kept (hs.2.2 j o hj) hg' (hne hr (hx1 j o hj).2.2.1 (blk_lt (hx1 j o hj).1))⟩)
      (fun k A B row hs hg' hr => by
        obtain ⟨c, hc, h1, h2⟩ := hs
        exact ⟨c, hIx c k A B row hc hg' (fun r e => (hr r e).imp id (fun x => ⟨Nat.le_trans hbV.size x.1, x.2⟩)), blk_kept h1 hg' (hne hr hl hlt1), fun j o hj => blk_kept (h2 j o hj) hg' (hne hr (hx1 j o hj).2.2.1 (blk_lt (hx1 j o hj).1))⟩)
      ?_ ⟨hI.new h0 ⟨hbV.os, hbV.tape, hbV.output, hbV.size, fun k hk _ => hbV.block k hk⟩, hL1, fun j o hj => (hx1 j o hj).1⟩).mono ?_
    · -- one round
      rintro k x W hx ⟨hi, hlk, hxk⟩
      have hy := run_yield (P := P) (args := x) hlk (by rw [hrec]; exact hps k x hx)
      rw [hrec] at hy
      refine ⟨fn, _, assign, body, hy, roundIn_of_wpIn trivial (wpIn_mono (hassign l k x W hx hi) ?_)⟩
      clear hy
      rintro e a' Wa hp
      cases e with
      | normal =>
        obtain ⟨hkb, haft⟩ := hp
        have hla := hkb.keeps.same _ _ hl hlk rfl
        refine ⟨_, run_beginRound hla (by rw [hrec]), ?_⟩
        have hlt : l < Wa.heap.size := blk_lt hla
        have hl2 : (Wa.putObj l (.loop { rec .ready none with state := .busy })).heap[l]? = some (.loop { rec .ready none with state := .busy }) := World.putObj_heap_same hlt
        refine wpIn_mono (hbody k x a' _ hx ⟨_, hl2⟩ ((hAft k a').put (k := 0) _ haft hl hla rfl)) ?_
        have kc0 : KB S V.heap.size W (Wa.putObj l (.loop { rec .ready none with state := .busy })) := (hkb.mono hbV.size).trans (KB.book _ hla rfl hlt1)
        have hx2 : ∀ j o, ex j o → (Wa.putObj l (.loop { rec .ready none with state := .busy })).heap[j]? = some o := fun j o hj =>
          (World.putObj_heap_other (hx1 j o hj).2.2.2).trans (hkb.keeps.same _ _ (hx1 j o hj).2.2.1 (hxk j o hj) (hx1 j o hj).2.1)
        have fin : ∀ (jump : Option Code) (W3 : World), KB S w.heap.size (Wa.putObj l (.loop { rec .ready none with state := .busy })) W3 →
            (Instr.endRound l jump).run P W3 = .ok (.bool jump.isNone) (W3.putObj l (.loop (rec (if jump.isNone then .ready else .done) jump))) ∧
            W3.heap[l]? = some (.loop { rec .ready none with state := .busy }) ∧
            (W3.putObj l (.loop (rec (if jump.isNone then .ready else .done) jump))).heap[l]? = some (.loop (rec (if jump.isNone then .ready else .done) jump)) ∧
            KB S V.heap.size W (W3.putObj l (.loop (rec (if jump.isNone then .ready else .done) jump))) ∧
            (∀ j o, ex j o → (W3.putObj l (.loop (rec (if jump.isNone then .ready else .done) jump))).heap[j]? = some o) := fun jump W3 hk3 => by
          have hl3 := hk3.keeps.same _ _ hl hl2 rfl
          have hrun := run_endRound (P := P) jump hl3
          rw [hrec] at hrun
          refine ⟨?_, hl3, World.putObj_heap_same (blk_lt hl3), (kc0.trans (hk3.mono hbV.size)).trans (KB.book _ hl3 rfl hlt1), fun j o hj => (World.putObj_heap_other (hx1 j o hj).2.2.2).trans (hk3.keeps.same _ _ (hx1 j o hj).2.2.1 (hx2 j o hj) (hx1 j o hj).2.1)⟩
          rw [hrec]; exact hrun
        rintro e a3 W3 hp
        cases e with
        | normal =>
          obtain ⟨hk3, hi3⟩ := hp
          obtain ⟨hr, hl3, hl4, hkc, hx4⟩ := fin none W3 hk3
          exact ⟨_, _, hr, hkc, .inl ⟨rfl, hI.put _ hi3 hl hl3 rfl, hl4, hx4⟩⟩
        | ret =>
          obtain ⟨hk3, hi3⟩ := hp
          obtain ⟨hr, hl3, hl4, hkc, hx4⟩ := fin (some .ret) W3 hk3
          exact ⟨_, _, hr, hkc, .inr ⟨rfl, .ret, (hIx _).put _ hi3 hl hl3 rfl, hl4, hx4⟩⟩
        | exit id =>
          obtain ⟨hk3, hi3⟩ := hp
          obtain ⟨hr, hl3, hl4, hkc, hx4⟩ := fin (some (.exit id)) W3 hk3
          exact ⟨_, _, hr, hkc, .inr ⟨rfl, .exit id, (hIx _).put _ hi3 hl hl3 rfl, hl4, hx4⟩⟩
        | goto t =>
          obtain ⟨hk3, hi3⟩ := hp
          obtain ⟨hr, hl3, hl4, hkc, hx4⟩ := fin (some (.goto t)) W3 hk3
          exact ⟨_, _, hr, hkc, .inr ⟨rfl, .goto t, (hIx _).put _ hi3 hl hl3 rfl, hl4, hx4⟩⟩
        | panic ch => exact hp.elim
        | outgrown => exact hp.elim
      | ret => exact hp.elim
      | exit id => exact hp.elim
      | goto t => exact hp.elim
      | panic ch => exact hp.elim
      | outgrown => exact hp.elim
    · -- behind the iterator
      rintro e W2 ⟨⟨v, rfl⟩, (⟨hi, hlk, hxk⟩ | ⟨k, hk0, hk, c, hi, hlk, hxk⟩)⟩
      · have hrun := run_endLoop (P := P) hlk (by rw [hrec]; simp)
        rw [hrec] at hrun
        exact ⟨none, _, hrun, hdone _ (hI.put _ hi hl hlk rfl) (fun j o hj => (World.putObj_heap_other (hx1 j o hj).2.2.2).trans (hxk j o hj))⟩
      · have hrun := run_endLoop (P := P) hlk (by rw [hrec]; simp)
        rw [hrec] at hrun
        exact ⟨some c, _, hrun, hstop c k _ hk0 hk ((hIx c).put _ hi hl hlk rfl) (fun j o hj => (World.putObj_heap_other (hx1 j o hj).2.2.2).trans (hxk j o hj))⟩

/-- The law at a loop that stands in no round: one mark is left. -/
theorem range_outer {g : Operand} {ps : Array Tmp} {assign body : Code} {Q : Exit → Act → World → Prop} {a : Act} {w : World} {gf : Nat} {lb : Array Value} (hg : a.eval g = .func (.func gf) #[] lb) (eg : Enters P gf)
    {xs : List (Array Value)} {S T : Nat → Prop} {w0 : World} (hseq : SeqX P gf lb xs S T w0) (hb0 : Below w0.heap.size w0 w) (hps : ∀ (k : Nat) x, xs[k]? = some x → x.size = ps.size) (hT : ∀ k, T k → k < w.heap.size)
    (I : Nat → World → Prop) (Ix : Code → Nat → World → Prop) (hI : Ab w.heap.size T I) (hIx : ∀ c, Ab w.heap.size T (Ix c)) (h0 : I 0 w)
    (Aft : Nat → Act → World → Prop) (hAft : ∀ k a', Ab w.heap.size T (fun _ W => Aft k a' W))
    (hassign : ∀ (l' k : Nat) (x : Array Value) (W : World), xs[k]? = some x → I k W →
      assign.wpIn (Fence.wide.inRound l') 0 P (Exit.then (fun a' W' => KB S w.heap.size W W' ∧ Aft k a' W') (fun _ _ _ => False)) { tmps := (ps.zip x).foldl (fun t (p, v) => t.setIfInBounds p v) a.tmps, defers := [] } W)
    (hbody : ∀ (l k : Nat) (x : Array Value) (a' : Act) (W : World), xs[k]? = some x → w.heap.size ≤ l → (∃ r, W.heap[l]? = some (.loop r)) → Aft k a' W → body.wpIn (Fence.wide.inRound l) 0 P (rndPost S w.heap.size I Ix k W) a' W)
    (hdone : ∀ (W : World), I xs.length W → W.heap[w.heap.size]? = some (.deferred (some [])) → Q .normal { a with defers := { target := .collected w.heap.size, args := #[] } :: a.defers } W)
    (hstop : ∀ (c : Code) (k : Nat) (W : World), 0 < k → k ≤ xs.length → Ix c k W → W.heap[w.heap.size]? = some (.deferred (some [])) → c.wpIn Fence.wide 0 P Q { a with defers := { target := .collected w.heap.size, args := #[] } :: a.defers } W) :
    (Code.rangeFunc g ps assign body).wpIn Fence.wide 0 P Q a w := by
  refine range_core (ro := none) hg eg hseq hb0 hps hT (w.heap.size + 1) [{ target := .collected w.heap.size, args := #[] }] w.heap.size
    (fun fn => (w.alloc (.deferred (some []))).alloc (.loop { state := .ready, pending := none, fn, tmps := a.tmps, params := ps, assign, body, defers := w.heap.size }))
    (fun fn => run_enterLoop_outer _ _ _ _ _) ?_ ?_ (by omega) (fun k o => k = w.heap.size ∧ o = .deferred (some [])) ?_ I Ix hI hIx h0 Aft hAft hassign ?_ ?_ ?_
  · intro fn
    have := World.alloc_heap_new (w.alloc (.deferred (some []))) (.loop { state := .ready, pending := none, fn, tmps := a.tmps, params := ps, assign, body, defers := w.heap.size })
    rw [World.size_alloc] at this; exact this
  · intro fn; exact ((Below.refl _ w).alloc (Nat.le_refl _) _).alloc (by simp) _
  · rintro fn k o ⟨rfl, rfl⟩
    exact ⟨(Below.heap_alloc _ _ _ (by simp)).trans (World.alloc_heap_new w _), rfl, Nat.le_refl _, by omega⟩
  · intro k x a' W hx hl ha
    exact hbody _ k x a' W hx (by omega) hl ha
  · intro W hi hx
    exact hdone W hi (hx _ _ ⟨rfl, rfl⟩)
  · intro c k W h0 hk hi hx
    exact hstop c k W h0 hk hi (hx _ _ ⟨rfl, rfl⟩)

/-- The law at a loop within a round. -/
theorem range_inner {l0 : Nat} {r0 : Loop} {g : Operand} {ps : Array Tmp} {assign body : Code} {Q : Exit → Act → World → Prop} {a : Act} {w : World} (hl0 : w.heap[l0]? = some (.loop r0)) {gf : Nat} {lb : Array Value} (hg : a.eval g = .func (.func gf) #[] lb) (eg : Enters P gf)
    {xs : List (Array Value)} {S T : Nat → Prop} {w0 : World} (hseq : SeqX P gf lb xs S T w0) (hb0 : Below w0.heap.size w0 w) (hps : ∀ (k : Nat) x, xs[k]? = some x → x.size = ps.size) (hT : ∀ k, T k → k < w.heap.size)
    (I : Nat → World → Prop) (Ix : Code → Nat → World → Prop) (hI : Ab w.heap.size T I) (hIx : ∀ c, Ab w.heap.size T (Ix c)) (h0 : I 0 w)
    (Aft : Nat → Act → World → Prop) (hAft : ∀ k a', Ab w.heap.size T (fun _ W => Aft k a' W))
    (hassign : ∀ (l' k : Nat) (x : Array Value) (W : World), xs[k]? = some x → I k W →
      assign.wpIn (Fence.wide.inRound l') 0 P (Exit.then (fun a' W' => KB S w.heap.size W W' ∧ Aft k a' W') (fun _ _ _ => False)) { tmps := (ps.zip x).foldl (fun t (p, v) => t.setIfInBounds p v) a.tmps, defers := [] } W)
    (hbody : ∀ (l k : Nat) (x : Array Value) (a' : Act) (W : World), xs[k]? = some x → w.heap.size ≤ l → (∃ r, W.heap[l]? = some (.loop r)) → Aft k a' W → body.wpIn (Fence.wide.inRound l) 0 P (rndPost S w.heap.size I Ix k W) a' W)
    (hdone : ∀ (W : World), I xs.length W → Q .normal a W)
    (hstop : ∀ (c : Code) (k : Nat) (W : World), 0 < k → k ≤ xs.length → Ix c k W → c.wpIn (Fence.wide.inRound l0) 0 P Q a W) :
    (Code.rangeFunc g ps assign body).wpIn (Fence.wide.inRound l0) 0 P Q a w := by
  refine range_core (ro := some l0) hg eg hseq hb0 hps hT w.heap.size [] r0.defers
    (fun fn => w.alloc (.loop { state := .ready, pending := none, fn, tmps := a.tmps, params := ps, assign, body, defers := r0.defers }))
    (fun fn => run_enterLoop_inner hl0 _ _ _ _ _) (fun fn => World.alloc_heap_new w _) (fun fn => (Below.refl _ w).alloc (Nat.le_refl _) _) (Nat.le_refl _) (fun k o => False) (fun _ _ _ h => h.elim) I Ix hI hIx h0 Aft hAft hassign ?_ ?_ ?_
  · intro k x a' W hx hl ha
    exact hbody _ k x a' W hx (Nat.le_refl _) hl ha
  · intro W hi _
    exact hdone W hi
  · intro c k W h0 hk hi _
    exact hstop c k W h0 hk hi
end
end Go.Proofs.Ytcieggaihelacaa
/- The frame layer's iterators: luma, parts: each hands on its list of parts, in its order, to the end or to a round that says no more. -/
set_option linter.unusedSimpArgs false
set_option linter.unusedVariables false
namespace Go.Proofs.Ytcieggaihelacaa
open Go.RowKit Go.Shelf
attribute [local go_sem] Oper.semAt_some

abbrev Part := Int × Int × Int
def encP (p : Part) : Array Value := #[.agg #[.int .i64 p.1, .int .i64 p.2.1, .int .i64 p.2.2]]
def lumaP (f X Y : Int) (i : Nat) : Part := ((i : Int) + 1, (Y + (i : Int) / 2 * 8) * wideS f + (X + (i : Int) % 2 * 8), wideS f)
def lumaA (f X Y : Int) : List (Array Value) := [encP (lumaP f X Y 0), encP (lumaP f X Y 1), encP (lumaP f X Y 2), encP (lumaP f X Y 3)]
theorem lumaA_at (f X Y : Int) (k : Nat) (h : k < 4) : (lumaA f X Y)[k]? = some (encP (lumaP f X Y k)) := by
  have : k = 0 ∨ k = 1 ∨ k = 2 ∨ k = 3 := by omega
  rcases this with rfl | rfl | rfl | rfl <;> rfl
theorem lumaA_len (f X Y : Int) : (lumaA f X Y).length = 4 := rfl

set_option maxRecDepth 100000 in
set_option maxHeartbeats 2000000 in
theorem luma_seq (S T : Nat → Prop) (f X Y : Int) (bf bx bY : Nat) (w : World) (hf : f = 0 ∨ f = 1) (hX0 : 0 ≤ X) (hX1 : X ≤ 400) (hY0 : 0 ≤ Y) (hY1 : Y ≤ 400)
    (kf : w.heap[bf]? = some (.cells #[.int .i64 f] 88 (0, 0))) (kx : w.heap[bx]? = some (.cells #[.int .i64 X] 3 (0, 0))) (ky : w.heap[bY]? = some (.cells #[.int .i64 Y] 3 (0, 0)))
    (sf : ¬ S bf) (sx : ¬ S bx) (sy : ¬ S bY) (hS : ∀ k, S k → k < w.heap.size) (hT : ∀ k, T k → k < w.heap.size) :
    SeqX Try.prog 104 #[.pointer (some ⟨bf, 0, none⟩), .pointer (some ⟨bx, 0, none⟩), .pointer (some ⟨bY, 0, none⟩)] (lumaA f X Y) S T w := by
  intro l J Jx W hW hJ hJx hY h0
  have hsz := hW.size
  have cf := blk_cell (blk_kept kf (below_grown hW none) (by simp)) 0
  have kx' := blk_kept kx (below_grown hW none) (by simp)
  have ky' := blk_kept ky (below_grown hW none) (by simp)
  simp only [List.getElem?_toArray, List.getElem?_cons_zero] at cf
  obtain ⟨hw0, hw1⟩ := wideS_bd f
  have hwf : ∀ f, Fence.wide.fn f := fun _ => trivial
  have hwd : Fence.wide.depth = none := rfl
  (refine callsIn_of_wp Try.func104 rfl trivial ?_ rfl; simp only [Try.ntmps104, List.size_toArray, List.length_cons, List.length_nil, Nat.reduceAdd, Nat.reduceSub, Array.replicate_succ, Array.replicate_zero, List.push_toArray, List.append_toArray, List.nil_append, List.cons_append])
  gi_wp2_with (gi_at_call 80; refine (callsIn_wide.2 (wide_any _ _)).mono ?_; rintro e w' ⟨rfl, rfl⟩)
  have hJ0 := hJ 0 W (W.alloc (.cells #[.int .i64 0, .int .i64 (wideS f)] 114)) none h0 (World.grownBy_alloc _ _ _) (fun r e => by cases e)
  gi_loopw [10] (fun i wr => ∃ k : Nat, k ≤ 4 ∧ i = .int .i64 k ∧ J k wr ∧ wr.heap[W.heap.size]? = some (.cells #[.int .i64 0, .int .i64 (wideS f)] 114 (0, 0)) ∧ wr.heap[bx]? = some (.cells #[.int .i64 X] 3 (0, 0)) ∧ wr.heap[bY]? = some (.cells #[.int .i64 Y] 3 (0, 0))) (fun i _ => 4 - (intOf i).toNat)
  case atStart => exact ⟨0, by omega, rfl, hJ0, World.alloc_heap_new _ _, blk_kept kx' (World.grownBy_alloc _ _ none) (by simp), blk_kept ky' (World.grownBy_alloc _ _ none) (by simp)⟩
  case round =>
    obtain ⟨k, hk, rfl, hJk, kp, kx2, ky2⟩ := hrel
    clear hJ0 h0 cf kx' ky'
    have HJ := Lib.hid hJk
    have HP := Lib.hid kp
    have HX := Lib.hid kx2
    have HY := Lib.hid ky2
    clear hJk kp kx2 ky2
    by_cases hlt : k < 4
    · have hkl : (k : Int) < 4 := by omega
      gi_wp2
      refine wpIn_region_mix (fun w' => w'.cell? ⟨W.heap.size, 0, none⟩ = some (.int .i64 0) ∧ w'.cell? ⟨W.heap.size, 1, none⟩ = some (.int .i64 (wideS f)) ∧ w'.cell? ⟨bx, 0, none⟩ = some (.int .i64 X) ∧ w'.cell? ⟨bY, 0, none⟩ = some (.int .i64 Y)) [18, 19]
        [(0, true), (1, true), (2, true), (3, true), (4, true), (5, true), (6, true), (7, true), (8, true), (9, true), (10, true), (11, true), (12, true), (13, true), (15, true), (16, true), (14, false), (17, true), (18, false), (19, false)] hwf (by kernel_rfl) (by kernel_rfl) rfl (by kernel_rfl) ?hB ?_
      case hB => exact ⟨by rw [World.cell?_drew, blk_cell HP.out]; rfl, by rw [World.cell?_drew, blk_cell HP.out]; rfl, by rw [World.cell?_drew, blk_cell HX.out]; rfl, by rw [World.cell?_drew, blk_cell HY.out]; rfl⟩
      iterate 16 (refine mix_q rfl rfl (fun w' hB => by obtain ⟨b0, b1, b2, b3⟩ := hB; go_simp; rfl) ?_; simp only [Act.put, List.setIfInBounds_toArray, List.set_cons_succ, List.set_cons_zero])
      simp (disch := omega) only [w64, tmod_in]
      refine mix_e rfl rfl ?_
      go_simp
      have hat := planeAt_any 0 (wideS f) (X + (k : Int) % 2 * 8) (Y + (k : Int) / 2 * 8) wr.drew (by omega) (by omega) (by omega) (by omega) (by omega) (by omega) (by omega) (by omega)
      simp only [Int.zero_add] at hat
      refine (callsIn_wide.2 hat).mono ?_
      clear hat
      rintro e w2 ⟨rfl, hb2⟩
      have hg2 : wr.grownBy w2 none := ⟨hb2.os, hb2.tape, hb2.output, hb2.size, fun k hk _ => hb2.block k hk⟩
      have HP2 := Lib.hid (blk_kept HP.out hg2 (by simp))
      have HX2 := Lib.hid (blk_kept HX.out hg2 (by simp))
      have HY2 := Lib.hid (blk_kept HY.out hg2 (by simp))
      refine ⟨⟨by rw [blk_cell HP2.out]; rfl, by rw [blk_cell HP2.out]; rfl, by rw [blk_cell HX2.out]; rfl, by rw [blk_cell HY2.out]; rfl⟩, ?_⟩
      obtain ⟨fn, tmps, assign, body, hy, hR⟩ := hY _ _ w2 (lumaA_at f X Y k hlt) (hJ _ _ _ none HJ.out hg2 (fun r e => by cases e))
      dsimp only [encP, lumaP] at hy
      refine mix_q rfl rfl (fun w' hB => by go_simp; rfl) ?_
      simp only [Act.put, List.setIfInBounds_toArray, List.set_cons_succ, List.set_cons_zero]
      refine mix_e rfl rfl ?_
      go_simp
      refine hR.mono ?_
      rintro e W3 ⟨hk3, ⟨rfl, hJ3⟩ | ⟨rfl, hJx3⟩⟩
      · refine mix_e rfl rfl ?_
        go_simp
        refine mix_nil ?_
        gi_wp2
        go_roundw
        case rel =>
          exact ⟨k + 1, by omega, by go_num, hJ3, hk3.kc.cells _ _ HP2.out rfl (fun h => by have := hS _ h; omega), hk3.kc.cells _ _ HX2.out rfl sx, hk3.kc.cells _ _ HY2.out rfl sy⟩
        case measure => simp [intOf]; omega
      · refine mix_e rfl rfl ?_
        go_simp
        refine mix_nil ?_
        gi_wp2
        refine bodyPost_ret (results_none rfl _ _ _) rfl ⟨⟨_, rfl⟩, .inr ⟨k + 1, by omega, by rw [lumaA_len]; omega, hJx3⟩⟩
    · have e : k = 4 := by omega
      subst e
      gi_wp2
      go_end0
      exact ⟨⟨_, rfl⟩, .inl HJ.out⟩
end Go.Proofs.Ytcieggaihelacaa
/- The frame layer's iterators: the makers luma and parts, and parts itself: all six blocks, in their order, to the end or to a round that says no more. -/
set_option linter.unusedSimpArgs false
set_option linter.unusedVariables false
namespace Go.Proofs.Ytcieggaihelacaa
open Go.RowKit Go.Shelf
attribute [local go_sem] Oper.semAt_some

theorem grown_drew (w : World) (row : Option Nat) : w.grownBy w.drew row := ⟨rfl, rfl, rfl, Nat.le_refl _, fun _ _ _ => rfl⟩
/-- What takes up a mark: the block for a loop's deferred calls, which holds none, is shut. -/
def shut (D : Nat) (W : World) : World := W.putObj D (.deferred none)
theorem Ab.ex {α : Type} {B : Nat} {T : Nat → Prop} {J : α → Nat → World → Prop} (h : ∀ q, Ab B T (J q)) : Ab B T (fun k W => ∃ q, J q k W) := fun k W W' row hj hg hr => by
  obtain ⟨q, hq⟩ := hj
  exact ⟨q, h q k W W' row hq hg hr⟩
theorem Ab.at {B : Nat} {T : Nat → Prop} {J : Nat → World → Prop} (h : Ab B T J) (k : Nat) : Ab B T (fun _ W => J k W) := fun _ W W' row hj hg hr => h k W W' row hj hg hr

theorem luma_any (f X Y : Int) (w : World) :
    Calls Try.prog 99 #[.int .i64 f, .int .i64 X, .int .i64 Y] w fun e w' => ∃ b0 b1 b2, e = .returned (.func (.func 104) #[] #[.pointer (some ⟨b0, 0, none⟩), .pointer (some ⟨b1, 0, none⟩), .pointer (some ⟨b2, 0, none⟩)]) ∧
      w'.heap[b0]? = some (.cells #[.int .i64 f] 88 (0, 0)) ∧ w'.heap[b1]? = some (.cells #[.int .i64 X] 3 (0, 0)) ∧ w'.heap[b2]? = some (.cells #[.int .i64 Y] 3 (0, 0)) ∧
      w.heap.size ≤ b0 ∧ w.heap.size ≤ b1 ∧ w.heap.size ≤ b2 ∧ Below w.heap.size w w' := by
  go_enter Try.func99, Try.ntmps99
  go_wp2
  go_ret
  refine ⟨_, _, _, rfl, ?_, ?_, ?_, ?_, ?_, ?_, ?_⟩
  · exact (Below.heap_alloc _ _ _ (by simp; omega)).trans ((Below.heap_alloc _ _ _ (by simp)).trans (World.alloc_heap_new w _))
  · exact (Below.heap_alloc _ _ _ (by simp)).trans (by have := World.alloc_heap_new (w.alloc (.cells #[.int .i64 f] 88)) (.cells #[.int .i64 X] 3); simpa using this)
  · have := World.alloc_heap_new ((w.alloc (.cells #[.int .i64 f] 88)).alloc (.cells #[.int .i64 X] 3)) (.cells #[.int .i64 Y] 3); simpa using this
  · omega
  · omega
  · omega
  · exact (((Below.refl _ w).alloc (Nat.le_refl _) _).alloc (by simp) _).alloc (by simp; omega) _
theorem parts_any (f X Y : Int) (w : World) :
    Calls Try.prog 87 #[.int .i64 f, .int .i64 X, .int .i64 Y] w fun e w' => ∃ b0 b1 b2, e = .returned (.func (.func 98) #[] #[.pointer (some ⟨b0, 0, none⟩), .pointer (some ⟨b1, 0, none⟩), .pointer (some ⟨b2, 0, none⟩)]) ∧
      w'.heap[b0]? = some (.cells #[.int .i64 f] 88 (0, 0)) ∧ w'.heap[b1]? = some (.cells #[.int .i64 X] 3 (0, 0)) ∧ w'.heap[b2]? = some (.cells #[.int .i64 Y] 3 (0, 0)) ∧
      w.heap.size ≤ b0 ∧ w.heap.size ≤ b1 ∧ w.heap.size ≤ b2 ∧ Below w.heap.size w w' := by
  go_enter Try.func87, Try.ntmps87
  go_wp2
  go_ret
  refine ⟨_, _, _, rfl, ?_, ?_, ?_, ?_, ?_, ?_, ?_⟩
  · exact (Below.heap_alloc _ _ _ (by simp; omega)).trans ((Below.heap_alloc _ _ _ (by simp)).trans (World.alloc_heap_new w _))
  · exact (Below.heap_alloc _ _ _ (by simp)).trans (by have := World.alloc_heap_new (w.alloc (.cells #[.int .i64 f] 88)) (.cells #[.int .i64 X] 3); simpa using this)
  · have := World.alloc_heap_new ((w.alloc (.cells #[.int .i64 f] 88)).alloc (.cells #[.int .i64 X] 3)) (.cells #[.int .i64 Y] 3); simpa using this
  · omega
  · omega
  · omega
  · exact (((Below.refl _ w).alloc (Nat.le_refl _) _).alloc (by simp) _).alloc (by simp; omega) _

def chrP (f X Y : Int) (i : Nat) : Part := ((i : Int) + 5, wideS f * (wideS f * 9 / 11) + (i : Int) * (wideS f * (wideS f * 9 / 11)) / 4 + Y / 2 * (wideS f / 2) + X / 2, wideS f / 2)
def partsA (f X Y : Int) : List (Array Value) := lumaA f X Y ++ [encP (chrP f X Y 0), encP (chrP f X Y 1)]
theorem partsA_l (f X Y : Int) {k : Nat} {x : Array Value} (h : (lumaA f X Y)[k]? = some x) : (partsA f X Y)[k]? = some x := by
  rw [← h]; unfold partsA
  have hk : k < 4 := by
    rcases Nat.lt_or_ge k 4 with h' | h'
    · exact h'
    · rw [List.getElem?_eq_none (by rw [lumaA_len]; omega)] at h; cases h
  exact List.getElem?_append_left (by rw [lumaA_len]; omega)
theorem partsA_c (f X Y : Int) {k : Nat} (h : k < 2) : (partsA f X Y)[k + 4]? = some (encP (chrP f X Y k)) := by
  have : k = 0 ∨ k = 1 := by omega
  rcases this with rfl | rfl <;> rfl
theorem partsA_len (f X Y : Int) : (partsA f X Y).length = 6 := rfl
theorem lumaA_inv (f X Y : Int) {k : Nat} {x : Array Value} (h : (lumaA f X Y)[k]? = some x) : k < 4 ∧ x = encP (lumaP f X Y k) := by
  rcases Nat.lt_or_ge k 4 with h' | h'
  · exact ⟨h', Option.some.inj (h.symm.trans (lumaA_at f X Y k h'))⟩
  · rw [List.getElem?_eq_none (by rw [lumaA_len]; omega)] at h; cases h

set_option maxRecDepth 100000 in
set_option maxHeartbeats 2000000 in
theorem parts_seq (S T : Nat → Prop) (f X Y : Int) (bf bx bY : Nat) (w : World) (hf : f = 0 ∨ f = 1) (hX0 : 0 ≤ X) (hX1 : X ≤ 400) (hY0 : 0 ≤ Y) (hY1 : Y ≤ 400)
    (kf : w.heap[bf]? = some (.cells #[.int .i64 f] 88 (0, 0))) (kx : w.heap[bx]? = some (.cells #[.int .i64 X] 3 (0, 0))) (ky : w.heap[bY]? = some (.cells #[.int .i64 Y] 3 (0, 0)))
    (sf : ¬ S bf) (sx : ¬ S bx) (sy : ¬ S bY) (tf : ¬ T bf) (tx : ¬ T bx) (ty : ¬ T bY) (hS : ∀ k, S k → k < w.heap.size) (hT : ∀ k, T k → k < w.heap.size) :
    SeqX Try.prog 98 #[.pointer (some ⟨bf, 0, none⟩), .pointer (some ⟨bx, 0, none⟩), .pointer (some ⟨bY, 0, none⟩)] (partsA f X Y) S T w := by
  intro l J Jx W hW hJ hJx hY h0
  have hsz := hW.size
  have kf' := blk_kept kf (below_grown hW none) (by simp)
  have kx' := blk_kept kx (below_grown hW none) (by simp)
  have ky' := blk_kept ky (below_grown hW none) (by simp)
  have kb : (W.alloc (.cells #[.func (.yield l) #[] #[]] 112)).heap[W.heap.size]? = _ := World.alloc_heap_new W (.cells #[.func (.yield l) #[] #[]] 112)
  have gb := World.grownBy_alloc W (.cells #[.func (.yield l) #[] #[]] 112) none
  have HB := Lib.hid kb
  have HG := Lib.hid gb
  have cf := blk_cell (blk_kept kf' gb (by simp)) 0
  have cx := blk_cell (blk_kept kx' gb (by simp)) 0
  have cy := blk_cell (blk_kept ky' gb (by simp)) 0
  clear kb gb
  simp only [List.getElem?_toArray, List.getElem?_cons_zero] at cf cx cy
  obtain ⟨hw0, hw1⟩ := wideS_bd f
  have hwf : ∀ f, Fence.wide.fn f := fun _ => trivial
  have hwd : Fence.wide.depth = none := rfl
  have HJ := Lib.hid h0
  have HF := Lib.hid kf'
  have HX := Lib.hid kx'
  have HY := Lib.hid ky'
  clear h0 kf' kx' ky' kf kx ky
  (refine callsIn_of_wp_marks Try.func98 rfl trivial ?_ rfl; simp only [Try.ntmps98, List.size_toArray, List.length_cons, List.length_nil, Nat.reduceAdd, Nat.reduceSub, Array.replicate_succ, Array.replicate_zero, List.push_toArray, List.append_toArray, List.nil_append, List.cons_append])
  gi_wp2_with (gi_at_call 99; refine (callsIn_wide.2 (luma_any _ _ _ _)).mono ?_; rintro e w2 ⟨c0, c1, c2, rfl, k0, k1, k2, l0, l1, l2, hb2⟩)
  have hsz2 := hb2.size
  rw [World.size_alloc] at hsz2 l0 l1 l2
  have HG2 := Lib.hid (HG.out.trans (below_grown hb2 none))
  have j2 := hJ.new HJ.out HG2.out
  have kb2 := blk_kept HB.out (below_grown hb2 none) (by simp)
  have kf2 := blk_kept HF.out HG2.out (by simp)
  have kx2 := blk_kept HX.out HG2.out (by simp)
  have ky2 := blk_kept HY.out HG2.out (by simp)
  have hbl : bf < W.heap.size ∧ bx < W.heap.size ∧ bY < W.heap.size := ⟨blk_lt HF.out, blk_lt HX.out, blk_lt HY.out⟩
  obtain ⟨kept, hkept⟩ : ∃ kept : World → Prop, kept = fun V => w2.heap.size ≤ V.heap.size ∧ V.heap[W.heap.size]? = some (.cells #[.func (.yield l) #[] #[]] 112 (0, 0)) ∧ V.heap[bf]? = some (.cells #[.int .i64 f] 88 (0, 0)) ∧ V.heap[bx]? = some (.cells #[.int .i64 X] 3 (0, 0)) ∧ V.heap[bY]? = some (.cells #[.int .i64 Y] 3 (0, 0)) := ⟨_, rfl⟩
  have hkA : Ab w2.heap.size T (fun _ V => kept V) := by
    rw [hkept]
    exact Ab.and (fun _ _ _ _ hs hg _ => Nat.le_trans hs hg.size) ((Ab.blk (b := fun _ => W.heap.size) (o := fun _ => .cells #[.func (.yield l) #[] #[]] 112 (0, 0)) (fun _ => rfl) (fun _ h => by have := hT _ h; omega)).and
      ((Ab.blk (b := fun _ => bf) (o := fun _ => .cells #[.int .i64 f] 88 (0, 0)) (fun _ => rfl) (fun _ => tf)).and
      ((Ab.blk (b := fun _ => bx) (o := fun _ => .cells #[.int .i64 X] 3 (0, 0)) (fun _ => rfl) (fun _ => tx)).and
      (Ab.blk (b := fun _ => bY) (o := fun _ => .cells #[.int .i64 Y] 3 (0, 0)) (fun _ => rfl) (fun _ => ty)))))
  have hkK : ∀ {A B : World}, kept A → KC S A B → kept B := by
    rw [hkept]
    rintro A B ⟨h0, h1, h2, h3, h4⟩ hk
    exact ⟨Nat.le_trans h0 hk.size, hk.cells _ _ h1 rfl (fun h => by have := hS _ h; omega), hk.cells _ _ h2 rfl sf, hk.cells _ _ h3 rfl sx, hk.cells _ _ h4 rfl sy⟩
  have hk2 : kept w2 := by rw [hkept]; exact ⟨Nat.le_refl _, kb2, kf2, kx2, ky2⟩
  have hkN : ∀ {A B : World}, kept A → A.grownBy B none → kept B := by
    rw [hkept]
    rintro A B ⟨h0, h1, h2, h3, h4⟩ hg
    exact ⟨Nat.le_trans h0 hg.size, blk_kept h1 hg (by simp), blk_kept h2 hg (by simp), blk_kept h3 hg (by simp), blk_kept h4 hg (by simp)⟩
  have HKE := Lib.hid hkept
  clear hkept
  have hks : ∀ {A : World}, kept A → w2.heap.size ≤ A.heap.size := fun h => by rw [HKE.out] at h; exact h.1
  have HK2 := Lib.hid hk2
  have HJ2 := Lib.hid j2
  clear kb2 kf2 kx2 ky2 cf cx cy hk2 j2
  have hB2 : W.heap.size ≤ w2.heap.size := by omega
  obtain ⟨tm, htm⟩ : ∃ tm : Nat → Part → Array Value, tm = fun q p => #[.func (.yield l) #[] #[], .pointer (some ⟨bf, 0, none⟩), .pointer (some ⟨bx, 0, none⟩), .pointer (some ⟨bY, 0, none⟩), .pointer (some ⟨W.heap.size, 0, none⟩), .pointer (some ⟨q, 0, none⟩), undef, undef, undef, .int .i64 f, .int .i64 X, .int .i64 Y,
      .func (.func 104) #[] #[.pointer (some ⟨c0, 0, none⟩), .pointer (some ⟨c1, 0, none⟩), .pointer (some ⟨c2, 0, none⟩)], .agg #[.int .i64 p.1, .int .i64 p.2.1, .int .i64 p.2.2], undef, undef, undef, undef, undef, undef, undef, undef, undef, undef, undef, undef, undef, undef, undef, undef, undef, undef, undef, undef, undef, undef, undef, undef, undef, undef, undef, undef, undef, undef, undef, undef, undef, undef, undef, undef, undef] := ⟨_, rfl⟩
  have HTM := Lib.hid htm
  clear htm
  refine range_outer (gf := 104) rfl (enters_of Try.func104 (by kernel_rfl) rfl)
    (luma_seq S T f X Y c0 c1 c2 w2 hf hX0 hX1 hY0 hY1 k0 k1 k2 (fun h => by have := hS _ h; omega) (fun h => by have := hS _ h; omega) (fun h => by have := hS _ h; omega) (fun _ h => by have := hS _ h; omega) (fun _ h => by have := hT _ h; omega))
    (Below.refl _ _) (fun k x hx => by obtain ⟨_, rfl⟩ := lumaA_inv f X Y hx; rfl) (fun _ h => by have := hT _ h; omega)
    (fun k V => J k V ∧ kept V) (fun c k V => c = .ret ∧ Jx k V)
    ((hJ.mono hB2).and hkA) (fun c => (Ab.pure _ _ (fun _ => c = .ret)).and (hJx.mono hB2)) ⟨HJ2.out, HK2.out⟩
    (fun k a' V => ∃ q, (w2.heap.size ≤ q ∧ a' = { tmps := tm q (lumaP f X Y k), defers := [] }) ∧
      V.heap[q]? = some (.cells #[.int .i64 (lumaP f X Y k).1, .int .i64 (lumaP f X Y k).2.1, .int .i64 (lumaP f X Y k).2.2] 100 (0, 0)) ∧ J k V ∧ kept V) ?hAft ?assign ?body ?done ?stop
  case hAft =>
    rintro k a' j A B row ⟨q, ⟨h1, h2⟩, h3, h5, h6⟩ hg hr
    refine ⟨q, ⟨h1, h2⟩, blk_kept h3 hg (fun e => ?_), (hJ.mono hB2) k A B row h5 hg hr, hkA k A B row h6 hg hr⟩
    rcases hr _ e.symm with h | ⟨_, o, h7, h8⟩
    · have := hT _ h; omega
    · rw [h3] at h7; cases h7; cases h8
  case assign =>
    rintro l' k x V hx ⟨hj, hk⟩
    obtain ⟨hk4, rfl⟩ := lumaA_inv f X Y hx
    dsimp only [encP]
    have hl := World.alloc_heap_new V (.cells #[.int .i64 (lumaP f X Y k).1, .int .i64 (lumaP f X Y k).2.1, .int .i64 (lumaP f X Y k).2.2] 100)
    have hg := World.grownBy_alloc V (.cells #[.int .i64 (lumaP f X Y k).1, .int .i64 (lumaP f X Y k).2.1, .int .i64 (lumaP f X Y k).2.2] 100) none
    obtain ⟨p, hp⟩ : ∃ p, lumaP f X Y k = p := ⟨_, rfl⟩
    rw [hp] at hl hg ⊢
    gi_wp2
    exact ⟨KB.none hg, V.heap.size, ⟨hks hk, by rw [HTM.out]⟩, hl, hJ.new hj hg, hkN hk hg⟩
  case body =>
    rintro l' k x a' V hx hl hr ⟨q, ⟨h1, rfl⟩, h3, h5, h6⟩
    obtain ⟨hk4, rfl⟩ := lumaA_inv f X Y hx
    obtain ⟨fn, tmps, assign, body, hy, hR⟩ := hY _ _ V (partsA_l f X Y (lumaA_at f X Y k hk4)) h5
    have hkb := h6
    rw [HKE.out] at hkb
    have HKB := Lib.hid hkb
    have HQ := Lib.hid h3
    have HK := Lib.hid h6
    have HJ5 := Lib.hid h5
    have cb := blk_cell hkb.2.1 0
    have c30 := blk_cell h3 0
    have c31 := blk_cell h3 1
    have c32 := blk_cell h3 2
    simp only [List.getElem?_toArray, List.getElem?_cons_zero, List.getElem?_cons_succ] at cb c30 c31 c32
    clear hkb h3 h6 h5 hx
    obtain ⟨p, hp⟩ : ∃ p, lumaP f X Y k = p := ⟨_, rfl⟩
    rw [HTM.out]
    dsimp only [encP] at hy
    rw [hp] at hy c30 c31 c32 ⊢
    gi_wp2
    refine hR.mono ?_
    rintro e W3 ⟨hk3, ⟨rfl, hJ3⟩ | ⟨rfl, hJx3⟩⟩
    · gi_wp2
      exact ⟨hk3.mono hB2, hJ3, hkK HK.out hk3.kc⟩
    · gi_wp2
      exact ⟨hk3.mono hB2, rfl, hJx3⟩
  case stop =>
    rintro c k V h0 hk ⟨rfl, hJx4⟩ hD
    gi_wp2
    refine ⟨by simp, .inl ⟨_, _, rfl, run_takeDeferred hD, ?_⟩⟩
    exact ⟨_, results_none rfl _ _ _, ⟨_, rfl⟩, .inr ⟨k, h0, by rw [partsA_len]; rw [lumaA_len] at hk; omega, hJx.put _ hJx4 hB2 hD rfl⟩⟩
  case done =>
    rintro V ⟨hJ4, hk4⟩ hD
    have HK4 := Lib.hid hk4
    have HJ4 := Lib.hid hJ4
    have HD4 := Lib.hid hD
    rw [HKE.out] at hk4
    have HKB := Lib.hid hk4
    clear hk4 hJ4 hD HTM
    gi_wp2
    have hB0 : V.drew.cell? ⟨bf, 0, none⟩ = some (.int .i64 f) := by rw [World.cell?_drew, blk_cell HKB.out.2.2.1]; rfl
    refine wpIn_region_mix (fun w' => w'.cell? ⟨bf, 0, none⟩ = some (.int .i64 f)) [5] [(0, true), (2, true), (1, false), (3, false), (4, true), (5, false)] hwf (by kernel_rfl) (by kernel_rfl) rfl (by kernel_rfl) hB0 ?_
    iterate 2 (refine mix_q rfl rfl (fun w' hB => by go_simp; rfl) ?_; simp only [Act.put, List.setIfInBounds_toArray, List.set_cons_succ, List.set_cons_zero])
    refine mix_e rfl rfl ?_
    go_simp
    refine (callsIn_wide.2 (wide_any _ _)).mono ?_
    rintro e w' ⟨rfl, rfl⟩
    refine ⟨hB0, ?_⟩
    refine mix_e rfl rfl ?_
    go_simp
    refine (callsIn_wide.2 (high_any _ _)).mono ?_
    rintro e w' ⟨rfl, rfl⟩
    refine ⟨hB0, ?_⟩
    refine mix_q rfl rfl (fun w' hB => by go_simp; rfl) ?_
    simp only [Act.put, List.setIfInBounds_toArray, List.set_cons_succ, List.set_cons_zero]
    refine mix_e rfl rfl ?_
    go_simp
    refine mix_nil ?_
    obtain ⟨all, hal⟩ : ∃ all, wideS f * (wideS f * 9 / 11) = all := ⟨_, rfl⟩
    have hall : 0 ≤ all ∧ all ≤ 101376 := by rw [← hal]; rcases hf with rfl | rfl <;> decide
    have hcp : ∀ i : Nat, chrP f X Y i = ((i : Int) + 5, all + (i : Int) * all / 4 + Y / 2 * (wideS f / 2) + X / 2, wideS f / 2) := fun i => by unfold chrP; rw [hal]
    have HCP := Lib.hid hcp
    rw [hal, w64 (n := all) (by omega) (by omega)]
    have hJ0 := hJ.new HJ4.out (grown_drew V none)
    have hK0 := hkN HK4.out (grown_drew V none)
    have hD0 : V.drew.heap[w2.heap.size]? = some (.deferred (some [])) := HD4.out
    clear hcp hB0 hal
    generalize V.drew = V0 at *
    gi_wp2
    gi_loopw [23] (fun i wr => ∃ k : Nat, k ≤ 2 ∧ i = .int .i64 k ∧ J (k + 4) wr ∧ kept wr ∧ wr.heap[w2.heap.size]? = some (.deferred (some []))) (fun i _ => 4 - (intOf i).toNat)
    case atStart => exact ⟨0, by omega, rfl, hJ0, hK0, hD0⟩
    case round =>
      obtain ⟨k, hk, rfl, hJk, hKk, hDk⟩ := hrel
      clear hJ0 hK0 hD0
      have HJK := Lib.hid hJk
      have HKK := Lib.hid hKk
      have HDK := Lib.hid hDk
      rw [HKE.out] at hKk
      have HKB5 := Lib.hid hKk
      clear hJk hKk hDk
      have cf := blk_cell HKB5.out.2.2.1 0
      simp only [List.getElem?_toArray, List.getElem?_cons_zero] at cf
      by_cases hlt : k < 2
      · have hkl : (k : Int) < 2 := by omega
        have hm : 0 ≤ (k : Int) * all := Int.mul_nonneg (by omega) hall.1
        have hm2 : (k : Int) * all ≤ 2 * 101376 := Int.mul_le_mul (by omega) hall.2 hall.1 (by omega)
        gi_wp2_with (gi_at_call 80; refine (callsIn_wide.2 (wide_any _ _)).mono ?_; rintro e w' ⟨rfl, rfl⟩)
        obtain ⟨pl, hpl⟩ : ∃ pl, all + (k : Int) * all / 4 = pl := ⟨_, rfl⟩
        obtain ⟨st, hst⟩ : ∃ st, wideS f / 2 = st := ⟨_, rfl⟩
        obtain ⟨p, hp⟩ : ∃ p, chrP f X Y k = p := ⟨_, rfl⟩
        have hp' := (HCP.out k).symm.trans hp
        rw [hpl, hst] at hp'
        have hb1 : 0 ≤ pl ∧ pl ≤ 1000000 ∧ 0 ≤ st ∧ st ≤ 1000 := by omega
        try rw [hpl]
        try rw [hst]
        have hnew := World.alloc_heap_new wr (.cells #[.int .i64 pl, .int .i64 st] 114)
        have hg := World.grownBy_alloc wr (.cells #[.int .i64 pl, .int .i64 st] 114) none
        have hD6 := blk_kept HDK.out hg (by simp)
        have hK6 := hkN HKK.out hg
        have hJ6 := hJ.new HJK.out hg
        generalize wr.alloc (.cells #[.int .i64 pl, .int .i64 st] 114) = W6 at *
        have hB6 : W6.drew.cell? ⟨wr.heap.size, 0, none⟩ = some (.int .i64 pl) ∧ W6.drew.cell? ⟨wr.heap.size, 1, none⟩ = some (.int .i64 st) ∧ W6.drew.cell? ⟨W.heap.size, 0, none⟩ = some (.func (.yield l) #[] #[]) ∧ W6.drew.cell? ⟨bx, 0, none⟩ = some (.int .i64 X) ∧ W6.drew.cell? ⟨bY, 0, none⟩ = some (.int .i64 Y) := by
          have h := hK6
          rw [HKE.out] at h
          exact ⟨by rw [World.cell?_drew, blk_cell hnew]; rfl, by rw [World.cell?_drew, blk_cell hnew]; rfl, by rw [World.cell?_drew, blk_cell h.2.1]; rfl, by rw [World.cell?_drew, blk_cell h.2.2.2.1]; rfl, by rw [World.cell?_drew, blk_cell h.2.2.2.2]; rfl⟩
        have HJ6 := Lib.hid hJ6
        have HK6 := Lib.hid hK6
        have HD6 := Lib.hid hD6
        have HN6 := Lib.hid hnew
        clear hJ6 hK6 hD6 hnew cf hg hpl hst
        refine wpIn_region_mix (fun w' => w'.cell? ⟨wr.heap.size, 0, none⟩ = some (.int .i64 pl) ∧ w'.cell? ⟨wr.heap.size, 1, none⟩ = some (.int .i64 st) ∧ w'.cell? ⟨W.heap.size, 0, none⟩ = some (.func (.yield l) #[] #[]) ∧ w'.cell? ⟨bx, 0, none⟩ = some (.int .i64 X) ∧ w'.cell? ⟨bY, 0, none⟩ = some (.int .i64 Y)) [12, 13]
          [(0, true), (1, true), (2, true), (3, true), (4, true), (5, true), (6, true), (7, true), (9, true), (10, true), (8, false), (11, true), (12, false), (13, false)] hwf (by kernel_rfl) (by kernel_rfl) rfl (by kernel_rfl) hB6 ?_
        iterate 10 (refine mix_q rfl rfl (fun w' hB => by obtain ⟨b0, b1, b2, b3, b4⟩ := hB; go_simp; rfl) ?_; simp only [Act.put, List.setIfInBounds_toArray, List.set_cons_succ, List.set_cons_zero])
        refine mix_e rfl rfl ?_
        simp (disch := omega) only [w64, tmod_in, tdiv_in]
        go_simp
        refine (callsIn_wide.2 (planeAt_any pl st (X / 2) (Y / 2) W6.drew hb1.1 hb1.2.1 hb1.2.2.1 hb1.2.2.2 (by omega) (by omega) (by omega) (by omega))).mono ?_
        rintro e w2' ⟨rfl, hb7⟩
        have hg7 : W6.grownBy w2' none := (grown_drew W6 none).trans (below_grown hb7 none)
        have hN7 := blk_kept HN6.out hg7 (by simp)
        have HK7 := Lib.hid (hkN HK6.out hg7)
        have HD7 := Lib.hid (blk_kept HD6.out hg7 (by simp))
        have hB7 : w2'.cell? ⟨wr.heap.size, 0, none⟩ = some (.int .i64 pl) ∧ w2'.cell? ⟨wr.heap.size, 1, none⟩ = some (.int .i64 st) ∧ w2'.cell? ⟨W.heap.size, 0, none⟩ = some (.func (.yield l) #[] #[]) ∧ w2'.cell? ⟨bx, 0, none⟩ = some (.int .i64 X) ∧ w2'.cell? ⟨bY, 0, none⟩ = some (.int .i64 Y) := by
          have h := HK7.out
          rw [HKE.out] at h
          exact ⟨by rw [blk_cell hN7]; rfl, by rw [blk_cell hN7]; rfl, by rw [blk_cell h.2.1]; rfl, by rw [blk_cell h.2.2.2.1]; rfl, by rw [blk_cell h.2.2.2.2]; rfl⟩
        refine ⟨hB7, ?_⟩
        clear hb7 hN7
        have hJ7 := hJ.new HJ6.out hg7
        have hat := partsA_c f X Y hlt
        rw [hp] at hat
        obtain ⟨fn, tmps, assign, body, hy, hR⟩ := hY _ _ w2' hat hJ7
        rw [← hp'] at hy
        dsimp only [encP] at hy
        clear hg7 hJ7
        refine mix_q rfl rfl (fun w' hB => by go_simp; rfl) ?_
        simp only [Act.put, List.setIfInBounds_toArray, List.set_cons_succ, List.set_cons_zero]
        refine mix_e rfl rfl ?_
        go_simp
        refine hR.mono ?_
        rintro e W3 ⟨hk3, ⟨rfl, hJ3⟩ | ⟨rfl, hJx3⟩⟩
        · refine mix_e rfl rfl ?_
          go_simp
          refine mix_nil ?_
          have hK3 := hkK HK7.out hk3.kc
          have hD3 := hk3.keeps.same _ _ hB2 HD7.out rfl
          have HK3 := Lib.hid hK3
          have HD3 := Lib.hid hD3
          have HJ3 := Lib.hid hJ3
          clear hK3 hD3 hJ3
          gi_wp2
          go_roundw
          case rel => exact ⟨k + 1, by omega, by go_num, (by have := HJ3.out; rwa [show k + 4 + 1 = k + 1 + 4 by omega] at this), HK3.out, HD3.out⟩
          case measure => simp [intOf]; omega
        · refine mix_e rfl rfl ?_
          go_simp
          refine mix_nil ?_
          have hD3 := hk3.keeps.same _ _ hB2 HD7.out rfl
          have HJ3 := Lib.hid hJx3
          clear hJx3
          gi_wp2
          refine ⟨by simp, .inl ⟨_, _, rfl, run_takeDeferred hD3, ?_⟩⟩
          exact ⟨_, results_none rfl _ _ _, ⟨_, rfl⟩, .inr ⟨k + 4 + 1, by omega, by rw [partsA_len]; omega, hJx.put _ HJ3.out hB2 hD3 rfl⟩⟩
      · have e : k = 2 := by omega
        subst e
        gi_wp2
        refine ⟨by simp, .inl ⟨_, _, rfl, run_takeDeferred HDK.out, ?_⟩⟩
        exact ⟨_, results_none rfl _ _ _, ⟨_, rfl⟩, .inl (hJ.put _ HJK.out hB2 HDK.out rfl)⟩
end Go.Proofs.Ytcieggaihelacaa
/- The contract of the program's Place: by its iterator over all six blocks. -/
set_option linter.unusedSimpArgs false
set_option linter.unusedVariables false
namespace Go.Proofs.Ytcieggaihelacaa
open Go.RowKit Go.Shelf
attribute [local go_sem] Oper.semAt_some

theorem below_of_grown {n : Nat} {A B : World} (h : A.grownBy B none) (hn : n ≤ A.heap.size) : Below n A B := (grown_below h).mono hn
theorem partsA_inv {f X Y : Int} (hf : f = 0 ∨ f = 1) {k : Nat} {x : Array Value} (h : (partsA f X Y)[k]? = some x) : k < 6 ∧ x = encP ((k : Int) + 1, plcV f X Y ((k : Int) + 1), plcS f ((k : Int) + 1)) := by
  have hk : k < 6 := by
    rcases Nat.lt_or_ge k 6 with h' | h'
    · exact h'
    · rw [List.getElem?_eq_none (by rw [partsA_len]; omega)] at h; cases h
  refine ⟨hk, ?_⟩
  have : k = 0 ∨ k = 1 ∨ k = 2 ∨ k = 3 ∨ k = 4 ∨ k = 5 := by omega
  rcases hf with rfl | rfl <;> rcases this with rfl | rfl | rfl | rfl | rfl | rfl <;>
    (refine Option.some.inj (h.symm.trans ?_)
     simp [partsA, lumaA, lumaP, chrP, plcV, plcS, wideS, highS, encP]
     try omega)

set_option maxRecDepth 100000 in
set_option maxHeartbeats 2000000 in
theorem place_any (f g a b : Int) (w : World) (ha : -9223372036854775808 ≤ a) (ha2 : a ≤ 9223372036854775807) :
    Calls Try.prog 48 #[.int .i64 f, .int .i64 g, .int .i64 a, .int .i64 b] w fun e w' => e = .returned (.tuple #[.int .i64 (plA f g a b), .int .i64 (plS f g a b), .int .i64 (plE f g a b)]) ∧ Below w.heap.size w w' := by
  refine (callsIn_wide (n := 0)).1 ?_
  have hwf : ∀ f, Fence.wide.fn f := fun _ => trivial
  have hwd : Fence.wide.depth = none := rfl
  -- the four rows of the call
  obtain ⟨W0, hW0⟩ : ∃ W0, (((w.alloc (.cells #[.int .i64 b] 3)).alloc (.cells #[.int .i64 0] 3)).alloc (.cells #[.int .i64 0] 3)).alloc (.cells #[.int .i64 0] 28) = W0 := ⟨_, rfl⟩
  have z1 := World.alloc_heap_new w (.cells #[.int .i64 b] 3)
  have z2 := World.alloc_heap_new (w.alloc (.cells #[.int .i64 b] 3)) (.cells #[.int .i64 0] 3)
  have z3 := World.alloc_heap_new ((w.alloc (.cells #[.int .i64 b] 3)).alloc (.cells #[.int .i64 0] 3)) (.cells #[.int .i64 0] 3)
  have z4 := World.alloc_heap_new (((w.alloc (.cells #[.int .i64 b] 3)).alloc (.cells #[.int .i64 0] 3)).alloc (.cells #[.int .i64 0] 3)) (.cells #[.int .i64 0] 28)
  have hs0 : W0.heap.size = w.heap.size + 4 := by rw [← hW0]; simp
  have y1 : W0.heap[w.heap.size]? = some (.cells #[.int .i64 b] 3 (0, 0)) := by
    rw [← hW0]
    exact (Below.heap_alloc _ _ _ (by simp <;> omega)).trans ((Below.heap_alloc _ _ _ (by simp <;> omega)).trans ((Below.heap_alloc _ _ _ (by simp)).trans z1))
  have y2 : W0.heap[w.heap.size + 1]? = some (.cells #[.int .i64 0] 3 (0, 0)) := by
    rw [← hW0]
    refine (Below.heap_alloc _ _ _ (by simp <;> omega)).trans ((Below.heap_alloc _ _ _ (by simp)).trans ?_)
    simpa using z2
  have y3 : W0.heap[w.heap.size + 1 + 1]? = some (.cells #[.int .i64 0] 3 (0, 0)) := by
    rw [← hW0]
    refine (Below.heap_alloc _ _ _ (by simp)).trans ?_
    simpa using z3
  have y4 : W0.heap[w.heap.size + 1 + 1 + 1]? = some (.cells #[.int .i64 0] 28 (0, 0)) := by
    rw [← hW0]
    simpa using z4
  have hb0 : Below w.heap.size w W0 := by
    rw [← hW0]
    exact ((((Below.refl _ w).alloc (Nat.le_refl _) _).alloc (by simp) _).alloc (by simp <;> omega) _).alloc (by simp <;> omega) _
  have HW0 := Lib.hid hW0
  have Y1 := Lib.hid y1
  have Y2 := Lib.hid y2
  have Y3 := Lib.hid y3
  have Y4 := Lib.hid y4
  clear z1 z2 z3 z4 y1 y2 y3 y4 hW0
  (refine callsIn_of_wp_marks Try.func48 rfl trivial ?_ rfl; simp only [Try.ntmps48, List.size_toArray, List.length_cons, List.length_nil, Nat.reduceAdd, Nat.reduceSub, Array.replicate_succ, Array.replicate_zero, List.push_toArray, List.append_toArray, List.nil_append, List.cons_append])
  by_cases hc : cornE f g a ≠ 0
  · have hpl : plA f g a b = 0 ∧ plS f g a b = 0 ∧ plE f g a b = cornE f g a := by rcases pl_cases f g a b with ⟨_, hc', e1, e2, e3⟩ | ⟨hc', hn, e1, e2, e3⟩ | ⟨hc', hn, e1, e2, e3⟩ <;> first | exact ⟨e2, e3, e1⟩ | exact absurd hc' hc
    rw [hpl.1, hpl.2.1, hpl.2.2]; clear hpl
    have ht : (cornE f g a != 0) = true := by simpa using hc
    clear hc
    gi_wp2_with (gi_at_call 46; refine (callsIn_wide.2 (Corner_any _ _ _ _ ha ha2)).mono ?_; rw [HW0.out]; rintro e w1 ⟨rfl, hb⟩; have x2 := blk_kept Y2.out (below_grown hb none) (by simp); have x3 := blk_kept Y3.out (below_grown hb none) (by simp); have x4 := blk_kept Y4.out (below_grown hb none) (by simp); have c2 := blk_cell x2 0; have c3 := blk_cell x3 0; have c4 := blk_cell x4 0; have f2 := blk_free x2 0; have f3 := blk_free x3 0; have f4 := blk_free x4 0; simp only [List.getElem?_toArray, List.getElem?_cons_zero] at c2 c3 c4)
    refine ⟨_, by simp [results, Try.results48, go_sem, f2, f3, f4, c2, c3, c4]; rfl, ?_⟩
    refine ⟨by simp, ?_⟩
    exact ((((hb0.trans (hb.mono hb0.size)).setCell (p := ⟨w.heap.size + 1, 0, none⟩) (by simp) _).setCell (p := ⟨w.heap.size + 1 + 1, 0, none⟩) (by simp <;> omega) _).setCell (p := ⟨w.heap.size + 1 + 1 + 1, 0, none⟩) (by simp <;> omega) _)
  · have hc : cornE f g a = 0 := by simpa using hc
    obtain ⟨hf, hg, ha3, hX, hY⟩ := corn_ok hc
    obtain ⟨x0, x1, y0, y1⟩ := corner_bd hf hg ha3
    have hwh : wideS f ≤ 352 ∧ highS f ≤ 288 := by rcases fmt_cases f with ⟨_, h1, h2, _⟩ | ⟨_, h1, h2, _⟩ | ⟨_, _, h1, h2, _⟩ <;> omega
    have hpl : (1 ≤ b ∧ b ≤ 6 ∧ plA f g a b = plcV f (cornerX f g a) (cornerY g a) b ∧ plS f g a b = plcS f b ∧ plE f g a b = 0) ∨ (¬ (1 ≤ b ∧ b ≤ 6) ∧ plA f g a b = 0 ∧ plS f g a b = 0 ∧ plE f g a b = 3) := by
      rcases pl_cases f g a b with ⟨_, hc', e1, e2, e3⟩ | ⟨hc', hn, e1, e2, e3⟩ | ⟨hc', hn, e1, e2, e3⟩
      · exact absurd hc hc'
      · exact .inr ⟨hn, e2, e3, e1⟩
      · exact .inl ⟨hn.1, hn.2, e2, e3, e1⟩
    have HC := Lib.hid (show cornX f g a = cornerX f g a ∧ cornY f g a = cornerY g a ∧ cornE f g a = 0 from ⟨hX, hY, hc⟩)
    generalize plA f g a b = rA at *
    generalize plS f g a b = rS at *
    generalize plE f g a b = rE at *
    obtain ⟨X, eX⟩ : ∃ X, cornerX f g a = X := ⟨_, rfl⟩
    obtain ⟨Y, eY⟩ : ∃ Y, cornerY g a = Y := ⟨_, rfl⟩
    rw [eX] at hpl x0 x1 HC
    rw [eY] at hpl y0 y1 HC
    have HPL := Lib.hid hpl
    clear hpl hX hY hc eX eY ha3 hg
    gi_wp2_with (first
      | (gi_at_call 46; refine (callsIn_wide.2 (Corner_any _ _ _ _ ha ha2)).mono ?_; rw [HW0.out, HC.out.1, HC.out.2.1, HC.out.2.2]; rintro e w1 ⟨rfl, hb⟩)
      | (gi_at_call 87; refine (callsIn_wide.2 (parts_any _ _ _ _)).mono ?_; rintro e w2 ⟨c0, c1, c2, rfl, k0, k1, k2, l0, l1, l2, hb2⟩))
    have hsz1 := hb.size
    have hsz2 := hb2.size
    have hz1 : Below w.heap.size w w1 := hb0.trans (hb.mono hb0.size)
    have hz2 : Below w.heap.size w w2 := hz1.trans (hb2.mono hz1.size)
    obtain ⟨r8, h8⟩ : ∃ r8, w.heap.size + 1 = r8 := ⟨_, rfl⟩
    have q1 := blk_kept (blk_kept Y1.out (below_grown hb none) (by simp)) (below_grown hb2 none) (by simp)
    have q2 := blk_kept (blk_kept Y2.out (below_grown hb none) (by simp)) (below_grown hb2 none) (by simp)
    have q3 := blk_kept (blk_kept Y3.out (below_grown hb none) (by simp)) (below_grown hb2 none) (by simp)
    have q4 := blk_kept (blk_kept Y4.out (below_grown hb none) (by simp)) (below_grown hb2 none) (by simp)
    obtain ⟨S, hS⟩ : ∃ S : Nat → Prop, S = fun k => k = w.heap.size + 1 ∨ k = w.heap.size + 1 + 1 ∨ k = w.heap.size + 1 + 1 + 1 := ⟨_, rfl⟩
    have hSn : ∀ k, S k → w.heap.size ≤ k ∧ k < w.heap.size + 4 := by rw [hS]; intro k h; omega
    have hS0 : ¬ S w.heap.size := by rw [hS]; omega
    have hS8 : S (w.heap.size + 1) ∧ S (w.heap.size + 1 + 1) ∧ S (w.heap.size + 1 + 1 + 1) := by rw [hS]; simp
    clear hS h8
    obtain ⟨kept, hkept⟩ : ∃ kept : World → Prop, kept = fun V => w2.heap.size ≤ V.heap.size ∧ (V.heap[w.heap.size]? = some (.cells #[.int .i64 b] 3 (0, 0)) ∧ V.heap[w.heap.size + 1]? = some (.cells #[.int .i64 0] 3 (0, 0)) ∧ V.heap[w.heap.size + 1 + 1]? = some (.cells #[.int .i64 0] 3 (0, 0)) ∧ V.heap[w.heap.size + 1 + 1 + 1]? = some (.cells #[.int .i64 0] 28 (0, 0))) ∧ Below w.heap.size w V := ⟨_, rfl⟩
    have hkA : Ab w2.heap.size (fun _ => False) (fun _ V => kept V) := by
      rw [hkept]
      exact Ab.and (fun _ _ _ _ hs hg _ => Nat.le_trans hs hg.size) (((Ab.blk (b := fun _ => w.heap.size) (o := fun _ => .cells #[.int .i64 b] 3 (0, 0)) (fun _ => rfl) (fun _ h => h)).and
        ((Ab.blk (b := fun _ => w.heap.size + 1) (o := fun _ => .cells #[.int .i64 0] 3 (0, 0)) (fun _ => rfl) (fun _ h => h)).and
        ((Ab.blk (b := fun _ => w.heap.size + 1 + 1) (o := fun _ => .cells #[.int .i64 0] 3 (0, 0)) (fun _ => rfl) (fun _ h => h)).and
        (Ab.blk (b := fun _ => w.heap.size + 1 + 1 + 1) (o := fun _ => .cells #[.int .i64 0] 28 (0, 0)) (fun _ => rfl) (fun _ h => h))))).and (Ab.below (Nat.le_refl _) (by omega) (fun _ h => h.elim)))
    have hk2 : kept w2 := by rw [hkept]; exact ⟨Nat.le_refl _, ⟨q1, q2, q3, q4⟩, hz2⟩
    have hkN : ∀ {A B : World}, kept A → A.grownBy B none → kept B := fun h hg => hkA 0 _ _ none h hg (fun r e => by cases e)
    have HKE := Lib.hid hkept
    have HK2 := Lib.hid hk2
    clear hkept hk2 q1 q2 q3 q4
    obtain ⟨fin, hfin⟩ : ∃ fin : Nat → World → Prop, fin = fun (k : Nat) V => ((k : Int) = b ∧ V.heap[w.heap.size + 1]? = some (.cells #[.int .i64 (plcV f X Y b)] 3 (0, 0)) ∧ V.heap[w.heap.size + 1 + 1]? = some (.cells #[.int .i64 (plcS f b)] 3 (0, 0)) ∧ V.heap[w.heap.size + 1 + 1 + 1]? = some (.cells #[.int .i64 0] 28 (0, 0))) ∧ Below w.heap.size w V := ⟨_, rfl⟩
    have hfA : Ab w2.heap.size (fun _ => False) fin := by
      rw [hfin]
      exact ((Ab.pure _ _ (fun k => (k : Int) = b)).and ((Ab.blk (b := fun _ => w.heap.size + 1) (o := fun _ => .cells #[.int .i64 (plcV f X Y b)] 3 (0, 0)) (fun _ => rfl) (fun _ h => h)).and
        ((Ab.blk (b := fun _ => w.heap.size + 1 + 1) (o := fun _ => .cells #[.int .i64 (plcS f b)] 3 (0, 0)) (fun _ => rfl) (fun _ h => h)).and
        (Ab.blk (b := fun _ => w.heap.size + 1 + 1 + 1) (o := fun _ => .cells #[.int .i64 0] 28 (0, 0)) (fun _ => rfl) (fun _ h => h))))).and (Ab.below (Nat.le_refl _) (by omega) (fun _ h => h.elim))
    have HFE := Lib.hid hfin
    clear hfin
    obtain ⟨tm, htm⟩ : ∃ tm : Nat → Part → Array Value, tm = fun q p => #[.int .i64 f, .int .i64 g, .int .i64 a, .int .i64 b, undef, undef, undef, .pointer (some ⟨w.heap.size, 0, none⟩), .pointer (some ⟨w.heap.size + 1, 0, none⟩), .pointer (some ⟨w.heap.size + 1 + 1, 0, none⟩), .pointer (some ⟨w.heap.size + 1 + 1 + 1, 0, none⟩),
      .int .i64 X, .int .i64 Y, .int .i64 0, .pointer (some ⟨q, 0, none⟩), .tuple #[.int .i64 X, .int .i64 Y, .int .i64 0], .int .i64 f, .int .i64 g, .int .i64 a, .tuple #[.int .i64 X, .int .i64 Y, .int .i64 0], .int .i64 X, .int .i64 Y, .int .i64 0, .int .i64 0, .bool false, undef, .int .i64 f, .int .i64 X, .int .i64 Y,
      .func (.func 98) #[] #[.pointer (some ⟨c0, 0, none⟩), .pointer (some ⟨c1, 0, none⟩), .pointer (some ⟨c2, 0, none⟩)], .agg #[.int .i64 p.1, .int .i64 p.2.1, .int .i64 p.2.2], undef, undef, undef, undef, undef, undef, undef, undef] := ⟨_, rfl⟩
    have HTM := Lib.hid htm
    clear htm
    refine range_outer (gf := 98) rfl (enters_of Try.func98 (by kernel_rfl) rfl)
      (parts_seq S (fun _ => False) f X Y c0 c1 c2 w2 hf x0 (by omega) y0 (by omega) k0 k1 k2 (fun h => by have := hSn _ h; omega) (fun h => by have := hSn _ h; omega) (fun h => by have := hSn _ h; omega) (fun h => h) (fun h => h) (fun h => h) (fun _ h => by have := hSn _ h; omega) (fun _ h => h.elim))
      (Below.refl _ _) (fun k x hx => by obtain ⟨_, rfl⟩ := partsA_inv hf hx; rfl) (fun _ h => h.elim)
      (fun k V => kept V ∧ ∀ j : Nat, j < k → (j : Int) + 1 ≠ b) (fun c k V => c = .ret ∧ fin k V)
      (hkA.and (Ab.pure _ _ (fun k => ∀ j : Nat, j < k → (j : Int) + 1 ≠ b))) (fun c => (Ab.pure _ _ (fun _ => c = .ret)).and hfA) ⟨HK2.out, fun j h => by omega⟩
      (fun k a' V => ∃ q, (w2.heap.size ≤ q ∧ a' = { tmps := tm q ((k : Int) + 1, plcV f X Y ((k : Int) + 1), plcS f ((k : Int) + 1)), defers := [] }) ∧
        V.heap[q]? = some (.cells #[.int .i64 ((k : Int) + 1), .int .i64 (plcV f X Y ((k : Int) + 1)), .int .i64 (plcS f ((k : Int) + 1))] 100 (0, 0)) ∧ kept V ∧ ∀ j : Nat, j < k → (j : Int) + 1 ≠ b) ?hAft ?assign ?body ?done ?stop
    case hAft =>
      rintro k a' j A B row ⟨q, ⟨h1, h2⟩, h3, h5, h6⟩ hg hr
      refine ⟨q, ⟨h1, h2⟩, blk_kept h3 hg (fun e => ?_), hkA k A B row h5 hg hr, h6⟩
      rcases hr _ e.symm with h | ⟨_, o, h7, h8⟩
      · exact h
      · rw [h3] at h7; cases h7; cases h8
    case assign =>
      rintro l' k x V hx ⟨hk, hno⟩
      obtain ⟨hk6, rfl⟩ := partsA_inv hf hx
      have hks := hk
      rw [HKE.out] at hks
      have hs := hks.1
      clear hks
      dsimp only [encP]
      generalize plcV f X Y ((k : Int) + 1) = pv
      generalize plcS f ((k : Int) + 1) = ps
      have hl := World.alloc_heap_new V (.cells #[.int .i64 ((k : Int) + 1), .int .i64 pv, .int .i64 ps] 100)
      have hg := World.grownBy_alloc V (.cells #[.int .i64 ((k : Int) + 1), .int .i64 pv, .int .i64 ps] 100) none
      gi_wp2
      exact ⟨KB.none hg, V.heap.size, ⟨hs, by rw [HTM.out]⟩, hl, hkN hk hg, hno⟩
    case body =>
      rintro l' k x a' V hx hl hr ⟨q, ⟨h1, rfl⟩, h3, h5, h6⟩
      obtain ⟨hk6, rfl⟩ := partsA_inv hf hx
      have h5' := h5
      rw [HKE.out] at h5'
      have HKB := Lib.hid h5'
      have HQ := Lib.hid h3
      have HK := Lib.hid h5
      have HNO := Lib.hid h6
      have c30 := blk_cell h3 0
      have cb := blk_cell HKB.out.2.1.1 0
      simp only [List.getElem?_toArray, List.getElem?_cons_zero, List.getElem?_cons_succ] at cb c30
      clear h5' h3 h5 h6 hx hr
      rw [HTM.out]
      by_cases hkb : (k : Int) + 1 = b
      · have ht : ((k : Int) + 1 == b) = true := by simpa using hkb
        generalize hpv : plcV f X Y ((k : Int) + 1) = pv at *
        generalize hps : plcS f ((k : Int) + 1) = ps at *
        gi_wp2
        obtain ⟨V0, hV0⟩ : ∃ V0, V.drew = V0 := ⟨_, rfl⟩
        have kv : KB S w2.heap.size V V0 := by rw [← hV0]; exact KB.none (grown_drew V none)
        have v1 : V0.heap[q]? = some (.cells #[.int .i64 ((k : Int) + 1), .int .i64 pv, .int .i64 ps] 100 (0, 0)) := by rw [← hV0]; exact HQ.out
        have v2 : V0.heap[w.heap.size + 1]? = some (.cells #[.int .i64 0] 3 (0, 0)) := by rw [← hV0]; exact HKB.out.2.1.2.1
        have v3 : V0.heap[w.heap.size + 1 + 1]? = some (.cells #[.int .i64 0] 3 (0, 0)) := by rw [← hV0]; exact HKB.out.2.1.2.2.1
        have v4 : V0.heap[w.heap.size + 1 + 1 + 1]? = some (.cells #[.int .i64 0] 28 (0, 0)) := by rw [← hV0]; exact HKB.out.2.1.2.2.2
        have vb : Below w.heap.size w V0 := by rw [← hV0]; exact HKB.out.2.2.trans (below_of_grown (grown_drew V none) (Nat.le_trans (by omega) HKB.out.1))
        have c2 := blk_cell v2 0
        have c3 := blk_cell v3 0
        have c4 := blk_cell v4 0
        have f2 := blk_free v2 0
        have f3 := blk_free v3 0
        have f4 := blk_free v4 0
        simp only [List.getElem?_toArray, List.getElem?_cons_zero] at c2 c3 c4
        refine wpIn_region_mix (fun w' => w'.cell? ⟨q, 1, none⟩ = some (.int .i64 pv) ∧ w'.cell? ⟨q, 2, none⟩ = some (.int .i64 ps)) [5, 6] [(0, true), (1, true), (2, true), (3, true), (4, false), (5, false), (6, false)] (fun _ => trivial) (by kernel_rfl) (by kernel_rfl) rfl (by kernel_rfl) ?hB ?_
        case hB => rw [hV0]; exact ⟨by rw [blk_cell v1]; rfl, by rw [blk_cell v1]; rfl⟩
        rw [hV0]
        clear hV0
        iterate 4 (refine mix_q rfl rfl (fun w' hB => by obtain ⟨b0, b1⟩ := hB; go_simp; rfl) ?_; simp only [Act.put, List.setIfInBounds_toArray, List.set_cons_succ, List.set_cons_zero])
        have hq8 : q ≠ w.heap.size + 1 ∧ q ≠ w.heap.size + 1 + 1 ∧ q ≠ w.heap.size + 1 + 1 + 1 := by omega
        refine mix_e rfl rfl ?_
        go_simp
        refine ⟨⟨by rw [blk_cell v1]; rfl, by rw [blk_cell v1]; rfl⟩, ?_⟩
        iterate 2 (refine mix_e rfl rfl ?_; go_simp)
        refine mix_nil ?_
        gi_wp2
        have kb : ∀ {A : World} (r : Nat) (u : Value), S r → KB S w2.heap.size A (A.setCell ⟨r, 0, none⟩ u) := fun r u hr => KB.grown (grown_set _ _ _) (fun j e => by cases e; exact ⟨hr, by have := hSn _ hr; show r < _; omega⟩)
        refine ⟨((kv.trans (kb _ _ hS8.1)).trans (kb _ _ hS8.2.1)).trans (kb _ _ hS8.2.2), rfl, ?_⟩
        rw [HFE.out, ← hkb, hpv, hps]
        refine ⟨⟨by omega, ?_, ?_, ?_⟩, ?_⟩
        · exact blk_kept (blk_kept (blk_set v2 0 (.int .i64 pv)) (grown_set _ _ _) (by simp <;> omega)) (grown_set _ _ _) (by simp <;> omega)
        · exact blk_kept (blk_set (blk_kept v3 (grown_set _ _ _) (by simp <;> omega)) 0 (.int .i64 ps)) (grown_set _ _ _) (by simp <;> omega)
        · exact blk_set (blk_kept (blk_kept v4 (grown_set _ _ _) (by simp <;> omega)) (grown_set _ _ _) (by simp <;> omega)) 0 (.int .i64 0)
        · exact ((vb.setCell (p := ⟨w.heap.size + 1, 0, none⟩) (by simp <;> omega) _).setCell (p := ⟨w.heap.size + 1 + 1, 0, none⟩) (by simp <;> omega) _).setCell (p := ⟨w.heap.size + 1 + 1 + 1, 0, none⟩) (by simp <;> omega) _
      · have ht : ((k : Int) + 1 == b) = false := by simpa using hkb
        generalize plcV f X Y ((k : Int) + 1) = pv at *
        generalize plcS f ((k : Int) + 1) = ps at *
        gi_wp2
        exact ⟨KB.refl _ _ _, HK.out, fun j hj => by rcases Nat.lt_or_ge j k with h | h
                                                     · exact HNO.out j h
                                                     · have : j = k := by omega
                                                       subst this; exact hkb⟩
    case done =>
      rintro V ⟨hk, hno⟩ hD
      rw [HKE.out] at hk
      have hnb : ¬ (1 ≤ b ∧ b ≤ 6) := fun h => hno (b - 1).toNat (by rw [partsA_len]; omega) (by omega)
      obtain ⟨eA, eS, eE⟩ : rA = 0 ∧ rS = 0 ∧ rE = 3 := by
        rcases HPL.out with h | h
        · exact absurd ⟨h.1, h.2.1⟩ hnb
        · exact h.2
      have HE := Lib.hid (And.intro eA (And.intro eS eE))
      have v2 := hk.2.1.2.1
      have v3 := hk.2.1.2.2.1
      have v4 := hk.2.1.2.2.2
      have vb := hk.2.2
      have HD := Lib.hid hD
      clear hk hno hD eA eS eE
      have c2 := blk_cell v2 0
      have c3 := blk_cell v3 0
      have c4 := blk_cell v4 0
      have f2 := blk_free v2 0
      have f3 := blk_free v3 0
      have f4 := blk_free v4 0
      simp only [List.getElem?_toArray, List.getElem?_cons_zero] at c2 c3 c4
      have V2 := Lib.hid v2
      have V3 := Lib.hid v3
      have V4 := Lib.hid v4
      clear v2 v3 v4
      gi_wp2
      have hD3 := blk_kept (blk_kept (blk_kept HD.out (grown_set V ⟨w.heap.size + 1, 0, none⟩ (.int .i64 0)) (by simp <;> omega)) (grown_set _ ⟨w.heap.size + 1 + 1, 0, none⟩ (.int .i64 0)) (by simp <;> omega)) (grown_set _ ⟨w.heap.size + 1 + 1 + 1, 0, none⟩ (.int .i64 3)) (by simp <;> omega)
      have u2 := blk_kept (blk_kept (blk_set V2.out 0 (.int .i64 0)) (grown_set _ ⟨w.heap.size + 1 + 1, 0, none⟩ (.int .i64 0)) (by simp <;> omega)) (grown_set _ ⟨w.heap.size + 1 + 1 + 1, 0, none⟩ (.int .i64 3)) (by simp <;> omega)
      have u3 := blk_kept (blk_set (blk_kept V3.out (grown_set _ ⟨w.heap.size + 1, 0, none⟩ (.int .i64 0)) (by simp <;> omega)) 0 (.int .i64 0)) (grown_set _ ⟨w.heap.size + 1 + 1 + 1, 0, none⟩ (.int .i64 3)) (by simp <;> omega)
      have u4 := blk_set (blk_kept (blk_kept V4.out (grown_set _ ⟨w.heap.size + 1, 0, none⟩ (.int .i64 0)) (by simp <;> omega)) (grown_set _ ⟨w.heap.size + 1 + 1, 0, none⟩ (.int .i64 0)) (by simp <;> omega)) 0 (.int .i64 3)
      have ub := ((vb.setCell (p := ⟨w.heap.size + 1, 0, none⟩) (by simp <;> omega) (.int .i64 0)).setCell (p := ⟨w.heap.size + 1 + 1, 0, none⟩) (by simp <;> omega) (.int .i64 0)).setCell (p := ⟨w.heap.size + 1 + 1 + 1, 0, none⟩) (by simp <;> omega) (.int .i64 3)
      generalize ((V.setCell ⟨w.heap.size + 1, 0, none⟩ (.int .i64 0)).setCell ⟨w.heap.size + 1 + 1, 0, none⟩ (.int .i64 0)).setCell ⟨w.heap.size + 1 + 1 + 1, 0, none⟩ (.int .i64 3) = Z at *
      refine ⟨by simp, .inl ⟨_, _, rfl, run_takeDeferred hD3, ?_⟩⟩
      have hp := grownBy_putObj' Z w2.heap.size (.deferred none)
      have c2 := blk_cell (blk_kept u2 hp (by simp <;> omega)) 0
      have c3 := blk_cell (blk_kept u3 hp (by simp <;> omega)) 0
      have c4 := blk_cell (blk_kept u4 hp (by simp <;> omega)) 0
      simp at c2 c3 c4
      exact ⟨_, by simp [results, Try.results48, go_sem, c2, c3, c4]; rfl, by rw [HE.out.1, HE.out.2.1, HE.out.2.2], ub.grown hp (by have := vb.size; have := ub.size; omega) (fun r e => by cases e; omega)⟩
    case stop =>
      rintro c k V h0 hk ⟨rfl, hf1⟩ hD
      rw [HFE.out] at hf1
      obtain ⟨⟨hkb, u2, u3, u4⟩, ub⟩ := hf1
      rw [partsA_len] at hk
      obtain ⟨eA, eS, eE⟩ : rA = plcV f X Y b ∧ rS = plcS f b ∧ rE = 0 := by rcases HPL.out with h | h <;> first | exact h.2.2 | exact absurd (by omega) h.1
      have HE := Lib.hid (And.intro eA (And.intro eS eE))
      clear eA eS eE
      gi_wp2
      refine ⟨by simp, .inl ⟨_, _, rfl, run_takeDeferred hD, ?_⟩⟩
      have hp := grownBy_putObj' V w2.heap.size (.deferred none)
      have c2 := blk_cell (blk_kept u2 hp (by simp <;> omega)) 0
      have c3 := blk_cell (blk_kept u3 hp (by simp <;> omega)) 0
      have c4 := blk_cell (blk_kept u4 hp (by simp <;> omega)) 0
      simp at c2 c3 c4
      exact ⟨_, by simp [results, Try.results48, go_sem, c2, c3, c4]; rfl, by rw [HE.out.1, HE.out.2.1, HE.out.2.2], ub.grown hp (by have := ub.size; omega) (fun r e => by cases e; omega)⟩
end Go.Proofs.Ytcieggaihelacaa
