/-
  Small laws on whole arrays of whole numbers by value, over any program: what '==' of two of them says, an element, a store of one element, a load and a store of all. No condition.
-/
import Derived.Test.YtpllifppjlakpaaRows
import Derived.WalkKit
import Derived.WalkSpells
import Derived.WalkLawsBesides
import Derived.Deep.WholeRow
import Derived.Deep.MidRow
import Derived.Lib.Hide
import Derived.Maps.AppendAt
import Derived.ProofKit
import Derived.OpenShut
namespace Go.Proofs.Ytpllifppjlakpaa
set_option linter.unusedVariables false
set_option linter.unusedSimpArgs false
open Go.RowKit

/-- The cells of an array of whole numbers. -/
def ints (k : IntKind) (xs : List Int) : Array Value := (xs.map (Value.int k)).toArray
theorem ints_size (k : IntKind) (xs : List Int) : (ints k xs).size = xs.length := by simp [ints]
theorem ints_get (k : IntKind) (xs : List Int) (i : Nat) : (ints k xs)[i]? = (xs[i]?).map (Value.int k) := by simp [ints]
theorem ints_set (k : IntKind) (xs : List Int) (i : Nat) (s : Int) : (ints k xs).setIfInBounds i (.int k s) = ints k (xs.set i s) := by
  apply Array.ext_getElem?
  intro j
  simp only [ints, Array.getElem?_setIfInBounds, List.getElem?_toArray, List.size_toArray, List.length_map, List.map_set, List.getElem?_set]
theorem ints_one (k : IntKind) (xs : List Int) : (ints k xs).all (·.oneCell') = true := by
  simp [ints, Value.oneCell']
theorem ints_inj {k : IntKind} {xs ys : List Int} (h : ints k xs = ints k ys) : xs = ys := by
  unfold ints at h
  have h1 : xs.map (Value.int k) = ys.map (Value.int k) := by injection h
  clear h
  induction xs generalizing ys with
  | nil => cases ys with
    | nil => rfl
    | cons y ys => simp at h1
  | cons x xs ih => cases ys with
    | nil => simp at h1
    | cons y ys =>
      simp only [List.map_cons, List.cons.injEq] at h1
      obtain ⟨h2, h3⟩ := h1
      injection h2 with _ h2
      rw [h2, ih h3]

section
variable {P : Program} (w : World)

theorem run_part_ints {e : TypeId} {k : IntKind} (he : P.underlying e = some (.int k)) (xs : List Int) (i : Nat) (hi : i < xs.length) :
    (part e (ints k xs) i).run P w = .ok (.int k (xs.getD i 0)) w := by
  have h1 : (ints k xs)[i]? = some (.int k (xs.getD i 0)) := by rw [ints_get]; simp [hi]
  have hagg : (isAgg e).run P w = .ok false w := by
    unfold isAgg
    rw [Sem.run_bind, run_underlying he w]
    simp
  simp [part, Sem.run_bind, hagg, h1]

theorem run_equalIn_ints (d : Nat) {t e : TypeId} {n : Nat} {k : IntKind} (xs ys : List Int) (ht : P.underlying t = some (.array n e)) (he : P.underlying e = some (.int k))
    (hs : (P.info? e).map (·.size) = some 1) (hx : xs.length = n) (hy : ys.length = n) :
    (Op.equalIn (d + 2) t (.agg (ints k xs)) (.agg (ints k ys))).run P w = .ok (decide (xs = ys)) w := by
  have hz : ∀ w, (sizeOf e).run P w = .ok 1 w := fun w => by
    cases hq : P.info? e with
    | none => simp [hq] at hs
    | some i => simp [hq] at hs; simp [sizeOf, typeInfo, hq, hs]
  rw [show d + 2 = (d + 1) + 1 from rfl, Op.equalIn]
  simp only [Sem.run_bind, run_underlying ht, Result.andThen_ok, hz, Nat.mul_one]
  simp only [Std.Legacy.Range.forIn_eq_forIn_range', Std.Legacy.Range.size, Nat.sub_zero, Nat.add_sub_cancel, Nat.div_one]
  have key : ∀ (m a : Nat), a + m = n → xs.take a = ys.take a →
      ((forIn (List.range' a m) (none, PUnit.unit) fun i (_ : Option Bool × PUnit) => do
          let x ← part e (ints k xs) i
          let y ← part e (ints k ys) i
          if (!(← Op.equalIn (d + 1) e x y)) = true then pure (ForInStep.done (some false, PUnit.unit)) else pure (ForInStep.yield (none, PUnit.unit)) : Sem (Option Bool × PUnit)).run P w) =
      .ok (if xs = ys then none else some false, PUnit.unit) w := by
    intro m
    induction m with
    | zero =>
      intro a ha ht
      have e1 : xs = ys := by
        rw [List.take_of_length_le (by omega), List.take_of_length_le (by omega)] at ht
        exact ht
      simp [e1]
    | succ m ih =>
      intro a ha ht
      rw [List.range'_succ]
      simp only [List.forIn_cons, Sem.run_bind, run_part_ints w he xs a (by omega), run_part_ints w he ys a (by omega), Result.andThen_ok, run_equalIn_int w d e k k _ _ he]
      by_cases hq : xs.getD a 0 = ys.getD a 0
      · have hb : (xs.getD a 0 == ys.getD a 0) = true := by simpa using hq
        simp only [hb, Bool.not_true, Bool.false_eq_true, if_false, Sem.run_pure, Result.andThen_ok]
        have h2 : xs.take (a + 1) = ys.take (a + 1) := by
          have hxa : a < xs.length := by omega
          have hya : a < ys.length := by omega
          rw [List.take_succ_eq_append_getElem hxa, List.take_succ_eq_append_getElem hya, ht]
          have : xs[a] = ys[a] := by simpa [List.getD, hxa, hya] using hq
          rw [this]
        exact ih (a + 1) (by omega) h2
      · have hb : (xs.getD a 0 == ys.getD a 0) = false := by simpa using hq
        have hne : xs ≠ ys := fun e => hq (by rw [e])
        simp only [hb, Bool.not_false, if_true, Sem.run_pure, Result.andThen_ok, if_neg hne]
  have := key n 0 (by omega) (by simp)
  refine Eq.trans (congrArg (fun r => Result.andThen r _) this) ?_
  by_cases e1 : xs = ys <;> simp [e1]

theorem run_index_ints {t e : TypeId} {n : Nat} {k : IntKind} (xs : List Int) (i : Nat) (ht : P.underlying t = some (.array n e)) (he : P.underlying e = some (.int k))
    (hs : (P.info? e).map (·.size) = some 1) (hx : xs.length = n) (hi : i < n) :
    (Instr.index t (.agg (ints k xs)) (.int .i64 i)).run P w = .ok (.int k (xs.getD i 0)) w := by
  have hz : ∀ w, (sizeOf e).run P w = .ok 1 w := fun w => by
    cases hq : P.info? e with
    | none => simp [hq] at hs
    | some i => simp [hq] at hs; simp [sizeOf, typeInfo, hq, hs]
  have h1 : (0 : Int) ≤ (i : Int) ∧ (i : Int) < (n : Int) := ⟨by omega, by omega⟩
  have h2 := run_part_ints w he xs i (by omega)
  simp only [Instr.index, run_underlying ht, hz, asIntOf, Sem.run_bind, Sem.run_pure, Result.andThen_ok, if_pos h1, Int.toNat_natCast, Nat.mul_one, Sem.run_ite, h2]
theorem results_row_tmp {fn : Func} {p q : Tmp} {ty : TypeId} (h : fn.results = #[.cell p ty, .tmp q]) (tmps : Array Value) (g : Nat) (t : TypeId) (cs : Array Value) (fr : Nat × Nat) (d : TypeDesc)
    (hp : tmps.getD p undef = .pointer (some ⟨g, 0, none⟩)) (hg : w.heap[g]? = some (.cells cs t fr))
    (hu : P.underlying ty = some d) (hd : (match d with | .struct _ | .array _ _ => true | _ => false) = true) (hi : (P.info? ty).map (·.size) = some cs.size) :
    (results fn tmps).run P w = .ok (.tuple #[.agg cs, tmps.getD q undef]) w := by
  have hp' : tmps[p]?.getD undef = .pointer (some ⟨g, 0, none⟩) := by simpa using hp
  simp [results, h, hp', asAddr, run_loadVar_row w g t ty cs fr d hg hu hd hi]
end
section
variable {P : Program} {ops : Array Oper} {rest : List Oper} {o : Oper} {a : Act} {w : World} {Q : Exit → Act → World → Prop}
/-- A whole row is loaded, guarded or not. -/
theorem wpL_load (hw : Region.wanted o (yielded ops a.tmps) = true) (ty : TypeId) (x : Operand) (ho : o.op = .load ty x)
    (g : Nat) (hx : a.eval x = .pointer (some ⟨g, 0, none⟩)) (t : TypeId) (cs : Array Value) (fr : Nat × Nat) (d : TypeDesc) (hg : w.heap[g]? = some (.cells cs t fr))
    (hu : P.underlying ty = some d) (hd : (match d with | .struct _ | .array _ _ => true | _ => false) = true) (hi : (P.info? ty).map (·.size) = some cs.size)
    (h : wpList P ops Q rest (a.put o.dst (.agg cs)) w) : wpList P ops Q (o :: rest) a w :=
  BigFrame.wpList_want hw fun _ hK => wp_load_row ty x ho g hx t cs fr d hg hu hd hi (hK _ _ h)
/-- A whole row is stored, guarded or not. -/
theorem wpL_store (hw : Region.wanted o (yielded ops a.tmps) = true) (ty : TypeId) (x y : Operand) (ho : o.op = .store ty x y)
    (g : Nat) (cells : Array Value) (hx : a.eval x = .pointer (some ⟨g, 0, none⟩)) (hy : a.eval y = .agg cells)
    (t : TypeId) (old : Array Value) (hg : w.heap[g]? = some (.cells old t (0, 0))) (hi : (P.info? ty).map (·.size) = some cells.size)
    (hold : old.size = cells.size) (h1 : cells.all (·.oneCell') = true)
    (h : wpList P ops Q rest (a.put o.dst undef) (w.setRow g cells)) : wpList P ops Q (o :: rest) a w :=
  BigFrame.wpList_want hw fun _ hK => wp_store_row ty x y ho g cells hx hy t old hg hi hold h1 (hK _ _ h)
end
theorem blk_new (w : World) (o : Obj) {g : Nat} (hg : g = w.heap.size) : (w.alloc o).heap[g]? = some o := by subst hg; exact heap_alloc_new w o
theorem setRow_last (w : World) (c c' : Array Value) (t : TypeId) (g : Nat) (hg : g = w.heap.size) : (w.alloc (.cells c t)).setRow g c' = w.alloc (.cells c' t) := by
  subst hg; exact World.setRow_alloc_new w c c' t

section
variable {w w' : World} {g : Nat} {o : Obj} {k : IntKind} {xs : List Int} {t : TypeId}
theorem blk_lt (h : w.heap[g]? = some o) : g < w.heap.size := (Array.getElem?_eq_some_iff.1 h).1
theorem blk_alloc (h : w.heap[g]? = some o) (o' : Obj) : (w.alloc o').heap[g]? = some o := (Below.heap_alloc w o' g (blk_lt h)).trans h
theorem blk_set (h : w.heap[g]? = some (.cells (ints k xs) t (0, 0))) (i : Nat) (s : Int) : (w.setCell ⟨g, i, none⟩ (.int k s)).heap[g]? = some (.cells (ints k (xs.set i s)) t (0, 0)) := by
  rw [heap_setCell_same w g i _ t _ h, ints_set]
theorem blk_far (h : w.heap[g]? = some o) {p : Addr} (hne : g ≠ p.block) (v : Value) : (w.setCell p v).heap[g]? = some o := (heap_setCell_other w p g v hne).trans h
theorem blk_below {B : Nat} (h : w.heap[g]? = some o) (hb : Below B w w') (hlt : g < B) : w'.heap[g]? = some o := (hb.block g hlt).trans h
theorem blk_row (h : w.heap[g]? = some o) {row : Option Nat} (hb : w.grownBy w' row) (hne : some g ≠ row) : w'.heap[g]? = some o := (hb.block g (blk_lt h) hne).trans h
theorem cell_blk (h : w.heap[g]? = some (.cells (ints k xs) t (0, 0))) (i : Nat) (hi : i < xs.length) : w.cell? ⟨g, i, none⟩ = some (.int k (xs.getD i 0)) := by
  rw [cell_of_row w g i _ t (0, 0) h, ints_get]; simp [hi]
theorem cell_one {W : World} {g : Nat} {v : Value} {t : TypeId} (h : W.heap[g]? = some (.cells #[v] t (0, 0))) : W.cell? ⟨g, 0, none⟩ = some v := by
  rw [cell_of_row W g 0 _ t (0, 0) h]; rfl
theorem frozen_blk {cs : Array Value} (h : w.heap[g]? = some (.cells cs t (0, 0))) (i : Nat) : w.frozen? ⟨g, i, none⟩ = false := frozen_of_row w g i cs t h
end

theorem ints_of {k : IntKind} : ∀ (l : List Value), (∀ (i : Nat), i < l.length → ∃ n, l[i]? = some (.int k n) ∧ (Lit.int k n).wf = true) → ∃ xs : List Int, l = xs.map (Value.int k) ∧ ∀ x ∈ xs, (Lit.int k x).wf = true
  | [], _ => ⟨[], rfl, by simp⟩
  | v :: l, h => by
    obtain ⟨n, hn, hw⟩ := h 0 (by simp)
    obtain ⟨xs, hx, hws⟩ := ints_of l (fun i hi => by simpa using h (i + 1) (by simpa using hi))
    simp at hn
    exact ⟨n :: xs, by rw [hn, hx]; rfl, by simpa using ⟨hw, hws⟩⟩
section
open Go.ChangeShapes Go.WideShapes Go.ChangeAt
theorem open_arr {H : Type} {enc : TypeId × Value → H} {P : Program} {W : World} {base base' : Nat} {spare : Nat → Bool} {held : Bool} {t e : TypeId} {n : Nat} {k : IntKind} {v : Value} {d : DataW H} {p : List MemPlace} {r : Reach}
    (ht : P.underlying t = some (.array n e)) (he : P.underlying e = some (.int k)) (hC : P.cellsOf t = n) (hc : P.cellsOf e = 1)
    (hv : Value.okWide P W r base' t v) (h : DataW.Trod enc P W base spare held t v d p) :
    ∃ xs : List Int, v = .agg (ints k xs) ∧ xs.length = n ∧ ∀ x ∈ xs, (Lit.int k x).wf = true := by
  simp only [Value.okWide, ht] at hv
  obtain ⟨cs, rfl, hsz, _⟩ := hv
  obtain ⟨fuel, hf⟩ := h
  obtain ⟨ys, m, _, _, _, hyl, hg⟩ := DataW.trod_array ht hf
  obtain ⟨l⟩ := cs
  have hl : l.length = n := by rw [← hC]; simpa using hsz
  obtain ⟨xs, hx, hw⟩ := ints_of (k := k) l (fun i hi => by
    have h1 := hg i (by omega)
    have hy : ys[i]? = some (ys[i]'(by omega)) := List.getElem?_eq_getElem (by omega)
    rw [hy, hc] at h1
    obtain ⟨q, h2, _, h4⟩ := DataW.trod_int he h1
    simp only [Value.cells, Nat.mul_one] at h2
    refine ⟨q, ?_, h4⟩
    have h5 : (l.drop i).take 1 = [l[i]] := by rw [List.drop_eq_getElem_cons hi]; rfl
    rw [h5] at h2
    rw [List.getElem?_eq_getElem hi]
    simpa using h2)
  exact ⟨xs, by rw [hx]; rfl, by rw [← hl, hx]; simp, hw⟩
end
end Go.Proofs.Ytpllifppjlakpaa
