/- Numbers laid into a list, one behind the other; the builtin copy into a block of bytes. -/
import Derived.Test.YtcieggaihelacaaPd
import Derived.Laws.CopyOwn
set_option linter.unusedSimpArgs false
set_option linter.unusedVariables false
namespace Go.Proofs.Ytcieggaihelacaa
open Go.RowKit
/-- The first k of the numbers v, laid to the places q, into xs. -/
def put (q : Nat → Nat) (v : Nat → Int) : Nat → List Int → List Int
  | 0, xs => xs
  | k + 1, xs => (put q v k xs).set (q k) (v k)
theorem put_len (q : Nat → Nat) (v : Nat → Int) (k : Nat) (xs : List Int) : (put q v k xs).length = xs.length := by
  induction k with
  | zero => rfl
  | succ k ih => unfold put; rw [List.length_set, ih]
theorem put_miss {q : Nat → Nat} {v : Nat → Int} {k m : Nat} {xs : List Int} (h : ∀ i, i < k → q i ≠ m) : (put q v k xs)[m]? = xs[m]? := by
  induction k with
  | zero => rfl
  | succ k ih =>
    unfold put
    rw [List.getElem?_set_ne (h k (by omega)), ih (fun i hi => h i (by omega))]
theorem put_hit {q : Nat → Nat} {v : Nat → Int} {k i : Nat} {xs : List Int} (hi : i < k) (hinj : ∀ j, i < j → j < k → q j ≠ q i) (hq : q i < xs.length) : (put q v k xs)[q i]? = some (v i) := by
  induction k with
  | zero => omega
  | succ k ih =>
    unfold put
    by_cases e : i = k
    · subst e
      rw [List.getElem?_set_self (by rw [put_len]; exact hq)]
    · rw [List.getElem?_set_ne (hinj k (by omega) (by omega)), ih (by omega) (fun j h1 h2 => hinj j h1 (by omega))]
theorem byt.put {q : Nat → Nat} {v : Nat → Int} {xs : List Int} (h : byt xs) (hv : ∀ i, 0 ≤ v i ∧ v i ≤ 255) (k : Nat) : byt (put q v k xs) := by
  induction k with
  | zero => exact h
  | succ k ih => exact ih.set (hv k) _
theorem splice_snoc (L : List Int) (p : Nat) (vs : List Int) (x : Int) (h : p + vs.length < L.length) : splice L p (vs ++ [x]) = (splice L p vs).set (p + vs.length) x := by
  unfold splice
  have h1 : (L.take p).length = p := by rw [List.length_take]; omega
  rw [List.set_append_right _ _ (by rw [h1]; omega), h1, List.set_append_right _ _ (by omega)]
  rw [show p + vs.length - p - vs.length = 0 by omega, List.length_append, List.length_singleton, List.drop_eq_getElem_cons h]
  simp only [List.set_cons_zero, List.append_assoc, List.singleton_append]
  rw [show p + (vs.length + 1) = p + vs.length + 1 by omega]
theorem splice_row (q : Nat → Nat) (v : Nat → Int) (xs : List Int) (s : Nat) (n : Nat) (hq : ∀ u, u < n → q (s + u) = q s + u) (hfit : q s + n ≤ xs.length) :
    splice (put q v s xs) (q s) ((List.range n).map (fun u => v (s + u))) = put q v (s + n) xs := by
  induction n with
  | zero => simp [splice]
  | succ n ih =>
    rw [List.range_succ, List.map_append, List.map_singleton, splice_snoc _ _ _ _ (by rw [List.length_map, List.length_range, put_len]; omega), List.length_map, List.length_range,
      ih (fun u hu => hq u (by omega)) (by omega), ← hq n (by omega)]
    rfl
theorem splice_cells (xs : List Int) (tl : List Value) (p : Nat) (vs : List Int) (h : p + vs.length ≤ xs.length) :
    (xs.map (Value.int .u8) ++ tl).take p ++ (vs.map (Value.int .u8) ++ (xs.map (Value.int .u8) ++ tl).drop (p + (vs.map (Value.int .u8)).length)) = (splice xs p vs).map (Value.int .u8) ++ tl := by
  unfold splice
  rw [List.length_map, List.take_append_of_le_length (by rw [List.length_map]; omega), List.drop_append_of_le_length (by rw [List.length_map]; omega)]
  simp only [List.map_append, List.map_take, List.map_drop, List.append_assoc]
section
variable {F : Fence} {nF : Nat} {ops : Array Oper} {rest : List Oper} {Q : Exit → Act → World → Prop} {a : Act} {w : World}
theorem run_copyP {ty : TypeId} {gb p m dc sb so sc : Nat} {vs xs : List Int} {tl : List Value} (hp : Pic w gb xs tl) (hm : vs.length = m)
    (hv : ∀ i : Nat, i < m → w.cell? ⟨sb, so + i, none⟩ = some (.int .u8 (vs[i]?.getD 0))) (hfit : p + m ≤ xs.length) :
    ∃ w', (Builtin.copy_ #[24, 24] ty #[.slice (some ⟨gb, p, none⟩) m dc, .slice (some ⟨sb, so, none⟩) m sc]).run Try.prog w = .ok (goInt m) w' ∧ Pic w' gb (splice xs p vs) tl ∧ w.grownBy w' (some gb) := by
  subst hm
  have hr := run_copy_row (P := Try.prog) w 24 24 ty 5 gb p vs.length dc ⟨sb, so, none⟩ vs.length sc _ 5 (vs.map (Value.int .u8)) Try.underlying24 (by kernel_rfl) hp (by simp) (fun j y hj => by
    have hjl : j < vs.length := by have := (List.getElem?_eq_some_iff.1 hj).1; simpa using this
    have h1 := hv j hjl
    rw [List.getElem?_map] at hj
    simp [hjl] at hj h1
    subst hj
    unfold Addr.add
    split
    · rename_i e0; subst e0; exact h1
    · exact h1) (by simp; omega) (by intro y hy; obtain ⟨z, _, rfl⟩ := List.mem_map.1 hy; rfl)
  rw [List.length_map] at hr
  refine ⟨_, hr, ?_, ⟨rfl, rfl, rfl, by simp [World.setRow], fun k hk hne => setRow_other w gb k _ (fun e => hne (by rw [e]))⟩⟩
  unfold Pic
  rw [setRow_heap w gb _ _ _ _ hp]
  have := splice_cells xs tl p vs (by omega)
  rw [List.length_map] at this
  simp only [List.append_assoc]
  rw [this]
theorem wpIn_copyP {dst : Option Tmp} {ty : TypeId} {pos : String} {aft : Array Edge} {d s : Operand} {gb p m dc sb so sc : Nat} {vs xs : List Int} {tl : List Value}
    (hd : a.eval d = .slice (some ⟨gb, p, none⟩) m dc) (hs : a.eval s = .slice (some ⟨sb, so, none⟩) m sc) (hp : Pic w gb xs tl) (hm : vs.length = m)
    (hv : ∀ i : Nat, i < m → w.cell? ⟨sb, so + i, none⟩ = some (.int .u8 (vs[i]?.getD 0))) (hfit : p + m ≤ xs.length)
    (h : ∀ w', Hid (Pic w' gb (splice xs p vs) tl) → Hid (w.grownBy w' (some gb)) → wpListIn F nF Try.prog ops Q rest (a.put dst (goInt m)) w') :
    wpListIn F nF Try.prog ops Q (⟨dst, .call { callee := .builtin .copy, args := #[d, s], argTypes := #[24, 24] }, ty, pos, aft, none⟩ :: rest) a w := by
  refine wpListIn_plain rfl fun K hK => ?_
  obtain ⟨w', hr, h1, h2⟩ := run_copyP (ty := ty) (dc := dc) (sc := sc) hp hm hv hfit
  unfold Oper.wpIn
  refine ⟨by simp [Oper.about, resolve, Target.leads, Sem.run_pure], ?_⟩
  rw [Oper.semAt_plain F _ _ (by intro c hc'; cases hc')]
  simp [execOp, resolve, invoke, builtin, hs, hd, hr, Result.andThen]
  exact hK _ _ (h w' h1 h2)
end
theorem Rd.at' {k : IntKind} {w : World} {a : Option Addr} {n c : Nat} {xs : List Int} (h : Rd k w (.slice a n c) xs) {i : Nat} (hi : i < n) : ∃ b o, a = some ⟨b, o, none⟩ ∧ n ≤ c ∧ w.cell? ⟨b, o + i, none⟩ = some (.int k (xs[i]?.getD 0)) := by
  rcases h with ⟨e, _⟩ | ⟨b, o, c', e, _, hc, _, hh⟩
  · cases e; omega
  · cases e; exact ⟨b, o, rfl, hc, hh i hi⟩
theorem Ab.rd {B : Nat} {T : Nat → Prop} {kd : IntKind} {v : Value} {xs : List Int} (hT : ∀ k, ¬ T k) : Ab B T (fun _ W => Rd kd W v xs) := fun k W W' row hj hg hr => by
  rcases hj with h | ⟨b, off, cap, rfl, hlt, hc, hl, hh⟩
  · exact .inl h
  · refine .inr ⟨b, off, cap, rfl, Nat.lt_of_lt_of_le hlt hg.size, hc, hl, fun i hi => ?_⟩
    refine (World.cell?_of_block (w := W) (a := ⟨b, off + i, none⟩) (hg.block b hlt (fun e => ?_))).trans (hh i hi)
    rcases hr b e.symm with h | ⟨_, o, h1, h2⟩
    · exact hT b h
    · have := hh i hi
      unfold World.cell? at this
      rw [h1] at this
      cases o <;> simp [Obj.isCells] at h2 this
end Go.Proofs.Ytcieggaihelacaa
