/- A range over a function, where the iterator hands on a known list: one law for a loop, whether it stands in a round or not. -/
import Derived.RangeFuncNested
import Derived.RangeFuncLeaves
import Derived.Test.YtcieggaihelacaaMix
set_option linter.unusedSimpArgs false
set_option linter.unusedVariables false
namespace Go.Proofs.Ytcieggaihelacaa
open Go.RowKit Go.Shelf
/-- What a round keeps: each row of cells that is none of the caller's own (S). -/
structure KC (S : Nat → Prop) (W W' : World) : Prop where
  size : W.heap.size ≤ W'.heap.size
  cells : ∀ (k : Nat) (o : Obj), W.heap[k]? = some o → o.isCells = true → ¬ S k → W'.heap[k]? = some o
theorem KC.refl (S : Nat → Prop) (W : World) : KC S W W := ⟨Nat.le_refl _, fun _ _ h _ _ => h⟩
theorem KC.trans {S : Nat → Prop} {A B C : World} (h : KC S A B) (k : KC S B C) : KC S A C := ⟨Nat.le_trans h.size k.size, fun i o hi ho hs => k.cells i o (h.cells i o hi ho hs) ho hs⟩
theorem KC.book {S : Nat → Prop} {W : World} {l : Nat} {o : Obj} (o' : Obj) (h : W.heap[l]? = some o) (hc : o.isCells = false) : KC S W (W.putObj l o') :=
  ⟨by simp, fun k o'' hk ho _ => by
    by_cases e : k = l
    · subst e; rw [h] at hk; cases hk; rw [hc] at ho; cases ho
    · exact (World.putObj_heap_other e).trans hk⟩
theorem KC.grown {S : Nat → Prop} {W W' : World} {row : Option Nat} (hg : W.grownBy W' row) (hr : ∀ k, row = some k → S k) : KC S W W' :=
  ⟨hg.size, fun _ _ hk _ hs => (hg.block _ (blk_lt hk) (fun e => hs (hr _ e.symm))).trans hk⟩
theorem KC.mono {S S' : Nat → Prop} {W W' : World} (h : KC S W W') (hs : ∀ k, S k → S' k) : KC S' W W' := ⟨h.size, fun k o hk ho hn => h.cells k o hk ho (fun e => hn (hs k e))⟩

/-- Beside it: whatever is no cells and lies at or beyond B lies as it lay. -/
structure KB (S : Nat → Prop) (B : Nat) (W W' : World) : Prop where
  kc : KC S W W'
  keeps : KeepsFrom B W W'
theorem KB.refl (S : Nat → Prop) (B : Nat) (W : World) : KB S B W W := ⟨KC.refl S W, KeepsFrom.refl B W⟩
theorem KB.trans {S : Nat → Prop} {B : Nat} {X Y Z : World} (h : KB S B X Y) (k : KB S B Y Z) : KB S B X Z := ⟨h.kc.trans k.kc, h.keeps.trans k.keeps⟩
theorem KB.grown {S : Nat → Prop} {B : Nat} {W W' : World} {row : Option Nat} (hg : W.grownBy W' row) (hr : ∀ k, row = some k → S k ∧ k < B) : KB S B W W' :=
  ⟨KC.grown hg (fun k e => (hr k e).1), KeepsFrom.of_grownBy hg (fun k e => (hr k e).2)⟩
theorem KB.mono {S : Nat → Prop} {B B' : Nat} {W W' : World} (h : KB S B W W') (hB : B ≤ B') : KB S B' W W' := ⟨h.kc, ⟨h.keeps.size, fun k o hk => h.keeps.same k o (Nat.le_trans hB hk)⟩⟩
theorem KB.book {S : Nat → Prop} {B : Nat} {W : World} {l : Nat} {o : Obj} (o' : Obj) (h : W.heap[l]? = some o) (hc : o.isCells = false) (hl : l < B) : KB S B W (W.putObj l o') :=
  ⟨KC.book _ h hc, KeepsFrom.of_grownBy (grownBy_putObj' W l o') (fun j e => by cases e; exact hl)⟩
theorem KB.none {S : Nat → Prop} {B : Nat} {W W' : World} (hg : W.grownBy W' none) : KB S B W W' := KB.grown hg (fun k e => by cases e)

/-- J abides new blocks, the turn of a block that is no cells at or beyond B, and of the iterator's own rows (T). -/
def Ab (B : Nat) (T : Nat → Prop) (J : Nat → World → Prop) : Prop :=
  ∀ k W W' row, J k W → W.grownBy W' row → (∀ r, row = some r → T r ∨ (B ≤ r ∧ ∃ o : Obj, W.heap[r]? = some o ∧ o.isCells = false)) → J k W'
theorem Ab.new {B : Nat} {T : Nat → Prop} {J : Nat → World → Prop} (h : Ab B T J) {k : Nat} {W W' : World} (hj : J k W) (hg : W.grownBy W' none) : J k W' := h k W W' none hj hg (fun r e => by cases e)
theorem Ab.put {B : Nat} {T : Nat → Prop} {J : Nat → World → Prop} (h : Ab B T J) {k : Nat} {W : World} {l : Nat} {o : Obj} (o' : Obj) (hj : J k W) (hl : B ≤ l) (ho : W.heap[l]? = some o) (hc : o.isCells = false) : J k (W.putObj l o') :=
  h k W _ (some l) hj (grownBy_putObj' W l o') (fun r e => by cases e; exact Or.inr ⟨hl, o, ho, hc⟩)
theorem Ab.and {B : Nat} {T : Nat → Prop} {J J' : Nat → World → Prop} (h : Ab B T J) (g : Ab B T J') : Ab B T (fun k W => J k W ∧ J' k W) := fun k W W' row hj hg hr => ⟨h k W W' row hj.1 hg hr, g k W W' row hj.2 hg hr⟩
theorem Ab.pure (B : Nat) (T : Nat → Prop) (p : Nat → Prop) : Ab B T (fun k _ => p k) := fun _ _ _ _ hj _ _ => hj
theorem Ab.never (B : Nat) (T : Nat → Prop) : Ab B T (fun _ _ => False) := fun _ _ _ _ hj _ _ => hj.elim
theorem Ab.mono {B B' : Nat} {T : Nat → Prop} {J : Nat → World → Prop} (h : Ab B T J) (hB : B ≤ B') : Ab B' T J := fun k W W' row hj hg hr => h k W W' row hj hg (fun r e => (hr r e).imp id (fun x => ⟨Nat.le_trans hB x.1, x.2⟩))
theorem Ab.blk {B : Nat} {T : Nat → Prop} {b : Nat → Nat} {o : Nat → Obj} (ho : ∀ k, (o k).isCells = true) (hT : ∀ k, ¬ T (b k)) : Ab B T (fun k W => W.heap[b k]? = some (o k)) := fun k W W' row hj hg hr =>
  blk_kept hj hg (fun e => by
    rcases hr _ e.symm with h | ⟨_, o', h1, h2⟩
    · exact hT k h
    · rw [hj] at h1; cases h1; rw [ho k] at h2; cases h2)
theorem Ab.below {B n0 : Nat} {T : Nat → Prop} {w0 : World} (h0 : n0 ≤ w0.heap.size) (hB : n0 ≤ B) (hT : ∀ r, T r → n0 ≤ r) : Ab B T (fun _ W => Below n0 w0 W) := fun _ _ _ _ hj hg hr =>
  hj.grown hg (Nat.le_trans h0 hj.size) (fun r e => (hr r e).elim (hT r) (fun x => Nat.le_trans hB x.1))
theorem Ab.grown {B : Nat} {T : Nat → Prop} {w0 : World} {row0 : Option Nat} (hB : w0.heap.size ≤ B) (hT : ∀ r, T r → w0.heap.size ≤ r) : Ab B T (fun _ W => w0.grownBy W row0) := fun _ _ W' row hj hg hr =>
  ⟨hg.os.trans hj.os, hg.tape.trans hj.tape, hg.output.trans hj.output, Nat.le_trans hj.size hg.size, fun k hk hne => (hg.block k (Nat.lt_of_lt_of_le hk hj.size) (fun e => by
    rcases hr k e.symm with h | ⟨h, _⟩
    · have := hT k h; omega
    · omega)).trans (hj.block k hk hne)⟩

/-- The iterator's word: xs, in its order, to the end, or to a round that says no more. -/
def SeqX (P : Program) (g : Nat) (lb : Array Value) (xs : List (Array Value)) (S T : Nat → Prop) (w : World) : Prop :=
  ∀ (l : Nat) (J Jx : Nat → World → Prop) (W : World), Below w.heap.size w W → Ab W.heap.size T J → Ab W.heap.size T Jx →
    (∀ k x W1, xs[k]? = some x → J k W1 → YieldAt Fence.wide 0 P l x W1 fun e W' => KB S W.heap.size W1 W' ∧ ((e = .returned (.bool true) ∧ J (k + 1) W') ∨ (e = .returned (.bool false) ∧ Jx (k + 1) W'))) →
    J 0 W →
    CallsIn Fence.wide 0 P g (#[.func (.yield l) #[] #[]] ++ lb) W fun e W' => (∃ v, e = .returned v) ∧ (J xs.length W' ∨ ∃ k, 0 < k ∧ k ≤ xs.length ∧ Jx k W')

/-- How the body of a round may be left. -/
def rndPost (S : Nat → Prop) (B : Nat) (I : Nat → World → Prop) (Ix : Code → Nat → World → Prop) (k : Nat) (W : World) : Exit → Act → World → Prop
  | .normal, _, W' => KB S B W W' ∧ I (k + 1) W'
  | .ret, _, W' => KB S B W W' ∧ Ix .ret (k + 1) W'
  | .exit id, _, W' => KB S B W W' ∧ Ix (.exit id) (k + 1) W'
  | .goto t, _, W' => KB S B W W' ∧ Ix (.goto t) (k + 1) W'
  | .panic _, _, _ => False
  | .outgrown, _, _ => False

def WF (ro : Option Nat) : Fence := { Fence.wide with round := ro }

section
variable {P : Program}
theorem range_core {ro : Option Nat} {g : Operand} {ps : Array Tmp} {assign body : Code} {Q : Exit → Act → World → Prop} {a : Act} {w : World} {gf : Nat} {lb : Array Value} (hg : a.eval g = .func (.func gf) #[] lb) (eg : Enters P gf)
    {xs : List (Array Value)} {S T : Nat → Prop} {w0 : World} (hseq : SeqX P gf lb xs S T w0) (hb0 : Below w0.heap.size w0 w) (hps : ∀ (k : Nat) x, xs[k]? = some x → x.size = ps.size) (hT : ∀ k, T k → k < w.heap.size)
    (l : Nat) (mark : List Deferred) (dd : Nat) (W1 : FuncId → World)
    (hent : ∀ fn, (Instr.enterLoop fn a.tmps ps assign body ro).run P w = .ok (l, mark) (W1 fn))
    (hW1 : ∀ fn, (W1 fn).heap[l]? = some (.loop { state := .ready, pending := none, fn, tmps := a.tmps, params := ps, assign, body, defers := dd })) (hb1 : ∀ fn, Below w.heap.size w (W1 fn)) (hl : w.heap.size ≤ l)
    (ex : Nat → Obj → Prop) (hex : ∀ fn k o, ex k o → (W1 fn).heap[k]? = some o ∧ o.isCells = false ∧ w.heap.size ≤ k ∧ k ≠ l)
    (I : Nat → World → Prop) (Ix : Code → Nat → World → Prop) (hI : Ab w.heap.size T I) (hIx : ∀ c, Ab w.heap.size T (Ix c)) (h0 : I 0 w)
    (Aft : Nat → Act → World → Prop) (hAft : ∀ k a', Ab w.heap.size T (fun _ W => Aft k a' W))
    (hassign : ∀ (l' k : Nat) (x : Array Value) (W : World), xs[k]? = some x → I k W →
      assign.wpIn (Fence.wide.inRound l') 0 P (Exit.then (fun a' W' => KB S w.heap.size W W' ∧ Aft k a' W') (fun _ _ _ => False)) { tmps := (ps.zip x).foldl (fun t (p, v) => t.setIfInBounds p v) a.tmps, defers := [] } W)
    (hbody : ∀ (k : Nat) (x : Array Value) (a' : Act) (W : World), xs[k]? = some x → (∃ r, W.heap[l]? = some (.loop r)) → Aft k a' W → body.wpIn (Fence.wide.inRound l) 0 P (rndPost S w.heap.size I Ix k W) a' W)
    (hdone : ∀ (W : World), I xs.length W → (∀ k o, ex k o → W.heap[k]? = some o) → Q .normal { a with defers := mark ++ a.defers } W)
    (hstop : ∀ (c : Code) (k : Nat) (W : World), 0 < k → k ≤ xs.length → Ix c k W → (∀ k o, ex k o → W.heap[k]? = some o) → c.wpIn (WF ro) 0 P Q { a with defers := mark ++ a.defers } W) :
    (Code.rangeFunc g ps assign body).wpIn (WF ro) 0 P Q a w := by
  refine wpIn_rangeFunc ?_
  intro fn _
  obtain ⟨rec, hrec⟩ : ∃ rec : LoopState → Option Code → Loop, rec = fun st pe => { state := st, pending := pe, fn, tmps := a.tmps, params := ps, assign, body, defers := dd } := ⟨_, rfl⟩
  have hL1 : (W1 fn).heap[l]? = some (.loop (rec .ready none)) := by rw [hrec]; exact hW1 fn
  have hlt1 : l < (W1 fn).heap.size := blk_lt hL1
  have hx1 := hex fn
  obtain ⟨V, hV⟩ : ∃ V, W1 fn = V := ⟨_, rfl⟩
  have hbV : Below w.heap.size w V := hV ▸ hb1 fn
  have heV : (Instr.enterLoop fn a.tmps ps assign body ro).run P w = .ok (l, mark) V := hV ▸ hent fn
  rw [hV] at hL1 hlt1 hx1
  have hne : ∀ {A : World} {row : Option Nat} {k : Nat}, (∀ r, row = some r → T r ∨ (V.heap.size ≤ r ∧ ∃ o : Obj, A.heap[r]? = some o ∧ o.isCells = false)) → w.heap.size ≤ k → k < V.heap.size → some k ≠ row := fun hr hk hk2 e => by
    rcases hr _ e.symm with h | ⟨h, _⟩
    · have := hT _ h; omega
    · omega
  refine ⟨l, mark, V, { target := .fn (.func gf) lb, args := #[.func (.yield l) #[] #[]] }, V, gf, #[.func (.yield l) #[] #[]] ++ lb, V, heV, ?_, fun _ _ => trivial, ?_, fun _ => (by rename_i h; cases h), ?_⟩
  · simp only [resolve, hg]
    simp [go_sem]
  · have := eg (#[.func (.yield l) #[] #[]] ++ lb) V
    simp [invoke, go_sem, this]
  · refine (hseq l
      (fun k W => I k W ∧ W.heap[l]? = some (.loop (rec .ready none)) ∧ ∀ k o, ex k o → W.heap[k]? = some o)
      (fun k W => ∃ c, Ix c k W ∧ W.heap[l]? = some (.loop (rec .done (some c))) ∧ ∀ k o, ex k o → W.heap[k]? = some o)
      V (hb0.trans (hbV.mono hb0.size))
      (fun k A B row hs hg' hr => ⟨hI k A B row hs.1 hg' (fun r e => (hr r e).imp id (fun x => ⟨Nat.le_trans hbV.size x.1, x.2⟩)), blk_kept hs.2.1 hg' (hne hr hl hlt1), fun j o hj => blk_kept (hs.2.2 j o hj) hg' (hne hr (hx1 j o hj).2.2.1 (blk_lt (hx1 j o hj).1))⟩)
      (fun k A B row hs hg' hr => by
        obtain ⟨c, hc, h1, h2⟩ := hs
        exact ⟨c, hIx c k A B row hc hg' (fun r e => (hr r e).imp id (fun x => ⟨Nat.le_trans hbV.size x.1, x.2⟩)), blk_kept h1 hg' (hne hr hl hlt1), fun j o hj => blk_kept (h2 j o hj) hg' (hne hr (hx1 j o hj).2.2.1 (blk_lt (hx1 j o hj).1))⟩)
      ?_ ⟨hI.new h0 ⟨hbV.os, hbV.tape, hbV.output, hbV.size, fun k hk _ => hbV.block k hk⟩, hL1, fun j o hj => (hx1 j o hj).1⟩).mono ?_
    · -- one round
      rintro k x W hx ⟨hi, hlk, hxk⟩
      have hy := run_yield (P := P) (args := x) hlk (by rw [hrec]; exact hps k x hx)
      rw [hrec] at hy
      refine ⟨fn, _, assign, body, hy, roundIn_of_wpIn trivial (wpIn_mono (hassign l k x W hx hi) ?_)⟩
      clear hy
      rintro e a' Wa hp
      cases e with
      | normal =>
        obtain ⟨hkb, haft⟩ := hp
        have hla := hkb.keeps.same _ _ hl hlk rfl
        refine ⟨_, run_beginRound hla (by rw [hrec]), ?_⟩
        have hlt : l < Wa.heap.size := blk_lt hla
        have hl2 : (Wa.putObj l (.loop { rec .ready none with state := .busy })).heap[l]? = some (.loop { rec .ready none with state := .busy }) := World.putObj_heap_same hlt
        refine wpIn_mono (hbody k x a' _ hx ⟨_, hl2⟩ ((hAft k a').put (k := 0) _ haft hl hla rfl)) ?_
        have kc0 : KB S V.heap.size W (Wa.putObj l (.loop { rec .ready none with state := .busy })) := (hkb.mono hbV.size).trans (KB.book _ hla rfl hlt1)
        have hx2 : ∀ j o, ex j o → (Wa.putObj l (.loop { rec .ready none with state := .busy })).heap[j]? = some o := fun j o hj =>
          (World.putObj_heap_other (hx1 j o hj).2.2.2).trans (hkb.keeps.same _ _ (hx1 j o hj).2.2.1 (hxk j o hj) (hx1 j o hj).2.1)
        have fin : ∀ (jump : Option Code) (W3 : World), KB S w.heap.size (Wa.putObj l (.loop { rec .ready none with state := .busy })) W3 →
            (Instr.endRound l jump).run P W3 = .ok (.bool jump.isNone) (W3.putObj l (.loop (rec (if jump.isNone then .ready else .done) jump))) ∧
            W3.heap[l]? = some (.loop { rec .ready none with state := .busy }) ∧
            (W3.putObj l (.loop (rec (if jump.isNone then .ready else .done) jump))).heap[l]? = some (.loop (rec (if jump.isNone then .ready else .done) jump)) ∧
            KB S V.heap.size W (W3.putObj l (.loop (rec (if jump.isNone then .ready else .done) jump))) ∧
            (∀ j o, ex j o → (W3.putObj l (.loop (rec (if jump.isNone then .ready else .done) jump))).heap[j]? = some o) := fun jump W3 hk3 => by
          have hl3 := hk3.keeps.same _ _ hl hl2 rfl
          have hrun := run_endRound (P := P) jump hl3
          rw [hrec] at hrun
          refine ⟨?_, hl3, World.putObj_heap_same (blk_lt hl3), (kc0.trans (hk3.mono hbV.size)).trans (KB.book _ hl3 rfl hlt1), fun j o hj => (World.putObj_heap_other (hx1 j o hj).2.2.2).trans (hk3.keeps.same _ _ (hx1 j o hj).2.2.1 (hx2 j o hj) (hx1 j o hj).2.1)⟩
          rw [hrec]; exact hrun
        rintro e a3 W3 hp
        cases e with
        | normal =>
          obtain ⟨hk3, hi3⟩ := hp
          obtain ⟨hr, hl3, hl4, hkc, hx4⟩ := fin none W3 hk3
          exact ⟨_, _, hr, hkc, .inl ⟨rfl, hI.put _ hi3 hl hl3 rfl, hl4, hx4⟩⟩
        | ret =>
          obtain ⟨hk3, hi3⟩ := hp
          obtain ⟨hr, hl3, hl4, hkc, hx4⟩ := fin (some .ret) W3 hk3
          exact ⟨_, _, hr, hkc, .inr ⟨rfl, .ret, (hIx _).put _ hi3 hl hl3 rfl, hl4, hx4⟩⟩
        | exit id =>
          obtain ⟨hk3, hi3⟩ := hp
          obtain ⟨hr, hl3, hl4, hkc, hx4⟩ := fin (some (.exit id)) W3 hk3
          exact ⟨_, _, hr, hkc, .inr ⟨rfl, .exit id, (hIx _).put _ hi3 hl hl3 rfl, hl4, hx4⟩⟩
        | goto t =>
          obtain ⟨hk3, hi3⟩ := hp
          obtain ⟨hr, hl3, hl4, hkc, hx4⟩ := fin (some (.goto t)) W3 hk3
          exact ⟨_, _, hr, hkc, .inr ⟨rfl, .goto t, (hIx _).put _ hi3 hl hl3 rfl, hl4, hx4⟩⟩
        | panic ch => exact hp.elim
        | outgrown => exact hp.elim
      | ret => exact hp.elim
      | exit id => exact hp.elim
      | goto t => exact hp.elim
      | panic ch => exact hp.elim
      | outgrown => exact hp.elim
    · -- behind the iterator
      rintro e W2 ⟨⟨v, rfl⟩, (⟨hi, hlk, hxk⟩ | ⟨k, hk0, hk, c, hi, hlk, hxk⟩)⟩
      · have hrun := run_endLoop (P := P) hlk (by rw [hrec]; simp)
        rw [hrec] at hrun
        exact ⟨none, _, hrun, hdone _ (hI.put _ hi hl hlk rfl) (fun j o hj => (World.putObj_heap_other (hx1 j o hj).2.2.2).trans (hxk j o hj))⟩
      · have hrun := run_endLoop (P := P) hlk (by rw [hrec]; simp)
        rw [hrec] at hrun
        exact ⟨some c, _, hrun, hstop c k _ hk0 hk ((hIx c).put _ hi hl hlk rfl) (fun j o hj => (World.putObj_heap_other (hx1 j o hj).2.2.2).trans (hxk j o hj))⟩

/-- The law at a loop that stands in no round: one mark is left. -/
theorem range_outer {g : Operand} {ps : Array Tmp} {assign body : Code} {Q : Exit → Act → World → Prop} {a : Act} {w : World} {gf : Nat} {lb : Array Value} (hg : a.eval g = .func (.func gf) #[] lb) (eg : Enters P gf)
    {xs : List (Array Value)} {S T : Nat → Prop} {w0 : World} (hseq : SeqX P gf lb xs S T w0) (hb0 : Below w0.heap.size w0 w) (hps : ∀ (k : Nat) x, xs[k]? = some x → x.size = ps.size) (hT : ∀ k, T k → k < w.heap.size)
    (I : Nat → World → Prop) (Ix : Code → Nat → World → Prop) (hI : Ab w.heap.size T I) (hIx : ∀ c, Ab w.heap.size T (Ix c)) (h0 : I 0 w)
    (Aft : Nat → Act → World → Prop) (hAft : ∀ k a', Ab w.heap.size T (fun _ W => Aft k a' W))
    (hassign : ∀ (l' k : Nat) (x : Array Value) (W : World), xs[k]? = some x → I k W →
      assign.wpIn (Fence.wide.inRound l') 0 P (Exit.then (fun a' W' => KB S w.heap.size W W' ∧ Aft k a' W') (fun _ _ _ => False)) { tmps := (ps.zip x).foldl (fun t (p, v) => t.setIfInBounds p v) a.tmps, defers := [] } W)
    (hbody : ∀ (l k : Nat) (x : Array Value) (a' : Act) (W : World), xs[k]? = some x → w.heap.size ≤ l → (∃ r, W.heap[l]? = some (.loop r)) → Aft k a' W → body.wpIn (Fence.wide.inRound l) 0 P (rndPost S w.heap.size I Ix k W) a' W)
    (hdone : ∀ (W : World), I xs.length W → W.heap[w.heap.size]? = some (.deferred (some [])) → Q .normal { a with defers := { target := .collected w.heap.size, args := #[] } :: a.defers } W)
    (hstop : ∀ (c : Code) (k : Nat) (W : World), 0 < k → k ≤ xs.length → Ix c k W → W.heap[w.heap.size]? = some (.deferred (some [])) → c.wpIn Fence.wide 0 P Q { a with defers := { target := .collected w.heap.size, args := #[] } :: a.defers } W) :
    (Code.rangeFunc g ps assign body).wpIn Fence.wide 0 P Q a w := by
  refine range_core (ro := none) hg eg hseq hb0 hps hT (w.heap.size + 1) [{ target := .collected w.heap.size, args := #[] }] w.heap.size
    (fun fn => (w.alloc (.deferred (some []))).alloc (.loop { state := .ready, pending := none, fn, tmps := a.tmps, params := ps, assign, body, defers := w.heap.size }))
    (fun fn => run_enterLoop_outer _ _ _ _ _) ?_ ?_ (by omega) (fun k o => k = w.heap.size ∧ o = .deferred (some [])) ?_ I Ix hI hIx h0 Aft hAft hassign ?_ ?_ ?_
  · intro fn
    have := World.alloc_heap_new (w.alloc (.deferred (some []))) (.loop { state := .ready, pending := none, fn, tmps := a.tmps, params := ps, assign, body, defers := w.heap.size })
    rw [World.size_alloc] at this; exact this
  · intro fn; exact ((Below.refl _ w).alloc (Nat.le_refl _) _).alloc (by simp) _
  · rintro fn k o ⟨rfl, rfl⟩
    exact ⟨(Below.heap_alloc _ _ _ (by simp)).trans (World.alloc_heap_new w _), rfl, Nat.le_refl _, by omega⟩
  · intro k x a' W hx hl ha
    exact hbody _ k x a' W hx (by omega) hl ha
  · intro W hi hx
    exact hdone W hi (hx _ _ ⟨rfl, rfl⟩)
  · intro c k W h0 hk hi hx
    exact hstop c k W h0 hk hi (hx _ _ ⟨rfl, rfl⟩)

/-- The law at a loop within a round. -/
theorem range_inner {l0 : Nat} {r0 : Loop} {g : Operand} {ps : Array Tmp} {assign body : Code} {Q : Exit → Act → World → Prop} {a : Act} {w : World} (hl0 : w.heap[l0]? = some (.loop r0)) {gf : Nat} {lb : Array Value} (hg : a.eval g = .func (.func gf) #[] lb) (eg : Enters P gf)
    {xs : List (Array Value)} {S T : Nat → Prop} {w0 : World} (hseq : SeqX P gf lb xs S T w0) (hb0 : Below w0.heap.size w0 w) (hps : ∀ (k : Nat) x, xs[k]? = some x → x.size = ps.size) (hT : ∀ k, T k → k < w.heap.size)
    (I : Nat → World → Prop) (Ix : Code → Nat → World → Prop) (hI : Ab w.heap.size T I) (hIx : ∀ c, Ab w.heap.size T (Ix c)) (h0 : I 0 w)
    (Aft : Nat → Act → World → Prop) (hAft : ∀ k a', Ab w.heap.size T (fun _ W => Aft k a' W))
    (hassign : ∀ (l' k : Nat) (x : Array Value) (W : World), xs[k]? = some x → I k W →
      assign.wpIn (Fence.wide.inRound l') 0 P (Exit.then (fun a' W' => KB S w.heap.size W W' ∧ Aft k a' W') (fun _ _ _ => False)) { tmps := (ps.zip x).foldl (fun t (p, v) => t.setIfInBounds p v) a.tmps, defers := [] } W)
    (hbody : ∀ (l k : Nat) (x : Array Value) (a' : Act) (W : World), xs[k]? = some x → w.heap.size ≤ l → (∃ r, W.heap[l]? = some (.loop r)) → Aft k a' W → body.wpIn (Fence.wide.inRound l) 0 P (rndPost S w.heap.size I Ix k W) a' W)
    (hdone : ∀ (W : World), I xs.length W → Q .normal a W)
    (hstop : ∀ (c : Code) (k : Nat) (W : World), 0 < k → k ≤ xs.length → Ix c k W → c.wpIn (Fence.wide.inRound l0) 0 P Q a W) :
    (Code.rangeFunc g ps assign body).wpIn (Fence.wide.inRound l0) 0 P Q a w := by
  refine range_core (ro := some l0) hg eg hseq hb0 hps hT w.heap.size [] r0.defers
    (fun fn => w.alloc (.loop { state := .ready, pending := none, fn, tmps := a.tmps, params := ps, assign, body, defers := r0.defers }))
    (fun fn => run_enterLoop_inner hl0 _ _ _ _ _) (fun fn => World.alloc_heap_new w _) (fun fn => (Below.refl _ w).alloc (Nat.le_refl _) _) (Nat.le_refl _) (fun k o => False) (fun _ _ _ h => h.elim) I Ix hI hIx h0 Aft hAft hassign ?_ ?_ ?_
  · intro k x a' W hx hl ha
    exact hbody _ k x a' W hx (Nat.le_refl _) hl ha
  · intro W hi _
    exact hdone W hi
  · intro c k W h0 hk hi _
    exact hstop c k W h0 hk hi
end
end Go.Proofs.Ytcieggaihelacaa
