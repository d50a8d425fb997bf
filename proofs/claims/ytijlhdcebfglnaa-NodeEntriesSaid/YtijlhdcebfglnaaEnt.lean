/-
  node.Entries: the iterator's contract
-/
import Derived.Test.YtijlhdcebfglnaaWith
import Derived.RangeFuncNested
import Derived.RangeFuncBound
import Derived.RangeFuncCalls
import Derived.RangeFuncLeaves
import Derived.RangeFuncBox
import Derived.Shelf.Abstract
import Derived.Shelf.RegionOpen
import Derived.OwnWalkIn
import Derived.TacticsInMore
import Derived.LoopNIn
import Derived.LoopIn
namespace Go.Proofs.Ytijlhdcebfglnaa
open Go.RowKit Go.Shelf
attribute [local go_sem] Oper.semAt_some

section
variable {F : Fence} {n : Nat} {P : Program} {ops : Array Oper} {rest : List Oper} {o : Oper} {a : Act} {w : World} {Q : Exit → Act → World → Prop}
theorem wpLI_load (hw : Region.wanted o (yielded ops a.tmps) = true) (ty : TypeId) (x : Operand) (ho : o.op = .load ty x)
    (g : Nat) (hx : a.eval x = .pointer (some ⟨g, 0, none⟩)) (t : TypeId) (cs : Array Value) (fr : Nat × Nat) (d : TypeDesc) (hg : w.heap[g]? = some (.cells cs t fr))
    (hu : P.underlying ty = some d) (hd : (match d with | .struct _ | .array _ _ => true | _ => false) = true) (hi : (P.info? ty).map (·.size) = some cs.size)
    (h : wpListIn F n P ops Q rest (a.put o.dst (.agg cs)) w) : wpListIn F n P ops Q (o :: rest) a w :=
  BigFrame.wpListIn_want hw fun _ hK => by
    refine ⟨fun f hf => ?_, ?_⟩
    · simp [Oper.about, ho] at hf
    · rw [Oper.semAt_eq _ _ _ (by simp [ho])]
      unfold execOp
      simp only [ho, hx, Instr.loadAt, Instr.sureAddr, Sem.run_bind, Sem.run_pure, Result.andThen_ok, run_loadVar_row w g t ty cs fr d hg hu hd hi]
      exact hK _ _ h
end

/-- The entries that there are among the first k, in order. -/
def entriesTo (xs : List Int) (k : Nat) : List (Nat × Int) := ((List.range k).filter fun i => xs[i]?.getD 0 != 0).map fun i => (i, xs[i]?.getD 0)
theorem entriesTo_yes {xs : List Int} {k : Nat} (h : xs[k]?.getD 0 ≠ 0) : entriesTo xs (k + 1) = entriesTo xs k ++ [(k, xs[k]?.getD 0)] := by
  simp [entriesTo, List.range_succ, List.filter_append, h]
theorem entriesTo_no {xs : List Int} {k : Nat} (h : xs[k]?.getD 0 = 0) : entriesTo xs (k + 1) = entriesTo xs k := by
  simp [entriesTo, List.range_succ, List.filter_append, h]
theorem entriesTo_len (xs : List Int) (k : Nat) : (entriesTo xs k).length ≤ k := by
  unfold entriesTo
  rw [List.length_map]
  exact Nat.le_trans (List.length_filter_le _ _) (by simp)

theorem zeros_lit : ints .i64 zeros = #[.int .i64 0, .int .i64 0, .int .i64 0, .int .i64 0, .int .i64 0, .int .i64 0, .int .i64 0, .int .i64 0, .int .i64 0, .int .i64 0, .int .i64 0, .int .i64 0, .int .i64 0, .int .i64 0, .int .i64 0, .int .i64 0, .int .i64 0, .int .i64 0, .int .i64 0, .int .i64 0, .int .i64 0, .int .i64 0, .int .i64 0, .int .i64 0, .int .i64 0, .int .i64 0, .int .i64 0, .int .i64 0, .int .i64 0, .int .i64 0, .int .i64 0, .int .i64 0] := rfl
theorem eq34_zero_no (xs : List Int) (hs : xs.length = 32) (hz : xs ≠ zeros) (w : World) : (Op.equalIn 10000 34 (.agg (ints .i64 xs)) (.agg #[.int .i64 0, .int .i64 0, .int .i64 0, .int .i64 0, .int .i64 0, .int .i64 0, .int .i64 0, .int .i64 0, .int .i64 0, .int .i64 0, .int .i64 0, .int .i64 0, .int .i64 0, .int .i64 0, .int .i64 0, .int .i64 0, .int .i64 0, .int .i64 0, .int .i64 0, .int .i64 0, .int .i64 0, .int .i64 0, .int .i64 0, .int .i64 0, .int .i64 0, .int .i64 0, .int .i64 0, .int .i64 0, .int .i64 0, .int .i64 0, .int .i64 0, .int .i64 0])).run Try.prog w = .ok false w := by
  rw [← zeros_lit, eq34 xs zeros hs rfl, decide_eq_false hz]
theorem eq34_zero_yes (w : World) : (Op.equalIn 10000 34 (.agg (ints .i64 zeros)) (.agg #[.int .i64 0, .int .i64 0, .int .i64 0, .int .i64 0, .int .i64 0, .int .i64 0, .int .i64 0, .int .i64 0, .int .i64 0, .int .i64 0, .int .i64 0, .int .i64 0, .int .i64 0, .int .i64 0, .int .i64 0, .int .i64 0, .int .i64 0, .int .i64 0, .int .i64 0, .int .i64 0, .int .i64 0, .int .i64 0, .int .i64 0, .int .i64 0, .int .i64 0, .int .i64 0, .int .i64 0, .int .i64 0, .int .i64 0, .int .i64 0, .int .i64 0, .int .i64 0])).run Try.prog w = .ok true w := by
  rw [← zeros_lit, eq34_same zeros rfl]
set_option maxRecDepth 100000 in
set_option maxHeartbeats 2000000 in
theorem entries1_some (F : Fence) (n : Nat) (h20 : F.fn 20) (hro : F.round = none) (hn : 1 ≤ n) (l Bs n₀ : Nat) (xs : List Int) (hs : xs.length = 32) (hz : xs ≠ zeros) (J Jx : List (Nat × Int) → World → Prop)
    (hY : ∀ pre x W, J pre W → pre.length < 32 → YieldAt F (n - 1) Try.prog l #[.int .i64 (x.1 : Int), .int .i64 x.2] W fun e W' =>
      (e = .returned (.bool true) ∧ J (pre ++ [x]) W' ∧ Below n₀ W W') ∨ (e = .returned (.bool false) ∧ Jx (pre ++ [x]) W'))
    (W : World) (hBs : W.heap[Bs]? = some (.cells (ints .i64 xs) 34 (0, 0))) (h0 : J [] W) :
    CallsIn F n Try.prog 20 #[.func (.yield l) #[] #[], .pointer (some ⟨Bs, 0, none⟩)] W fun e W' => (∃ v, e = .returned v) ∧
      ((∃ ys, ys = entriesTo xs 32 ∧ J ys W') ∨ (∃ pre, (∃ k, k ≤ 32 ∧ pre = entriesTo xs k) ∧ Jx pre W')) := by
  have heq := fun w => eq34_zero_no xs hs hz w
  refine callsIn_of_wp Try.func20 rfl h20 ?_ hro
  simp only [Try.ntmps20, List.size_toArray, List.length_cons, List.length_nil, Nat.reduceAdd, Nat.reduceSub, Array.replicate_succ, Array.replicate_zero, List.push_toArray, List.append_toArray, List.nil_append, List.cons_append]
  gi_wp2_with (refine wpLI_load rfl 34 (.tmp 1) rfl _ rfl 34 (ints .i64 xs) (0, 0) _ hBs Try.underlying34 rfl (size34_of hs) ?_)
  gi_loopw [9] (fun i wr => ∃ k : Nat, k ≤ 32 ∧ i = .int .i64 k ∧ J (entriesTo xs k) wr)
    (fun i _ => 32 - (intOf i).toNat)
  case atStart => exact ⟨0, Nat.zero_le _, rfl, h0⟩
  case round =>
    obtain ⟨k, hk, rfl, hJs⟩ := hrel
    by_cases hlt : k < 32
    · have hidx : ∀ w, (Instr.index 34 (.agg (ints .i64 xs)) (.int .i64 k)).run Try.prog w = .ok (.int .i64 (xs[k]?.getD 0)) w := fun w => by
        rw [run_index_ints w xs k Try.underlying34 Try.underlying3 size3 hs hlt, List.getD_eq_getElem?_getD]
      generalize hx : xs[k]?.getD 0 = x at *
      by_cases hx0 : x = 0
      · have hb0 : (x != 0) = false := by simp [hx0]
        have hb1 : (x == 0) = true := by simp [hx0]
        have Hx := Lib.hid hx
        have Hx0 := Lib.hid hx0
        clear hx hx0
        gi_wp2
        refine ⟨fun _ h => (by cases h), ?_⟩
        gi_wp2
        go_roundw
        case rel => exact ⟨k + 1, by omega, by simp, by rw [entriesTo_no (Hx.out.trans Hx0.out)]; exact hJs⟩
        case measure => simp [intOf]; omega
      · have hb0 : (x != 0) = true := by simp [hx0]
        have hb1 : (x == 0) = false := by simp [hx0]
        obtain ⟨fn, tmps, assign, body, hy, hR⟩ := hY _ (k, x) wr hJs (Nat.lt_of_le_of_lt (entriesTo_len xs k) hlt)
        dsimp only at hy
        have Hx := Lib.hid hx
        clear hx
        gi_wp2
        refine hR.mono ?_
        rintro e W3 (⟨rfl, hJ3, hk3⟩ | ⟨rfl, hJx3⟩)
        · gi_wp2
          go_roundw
          case rel => exact ⟨k + 1, by omega, by simp, by rw [entriesTo_yes (by rw [Hx.out]; exact hx0), Hx.out]; exact hJ3⟩
          case measure => simp [intOf]; omega
        · gi_wp2
          refine bodyPost_ret (results_none rfl _ _ _) rfl ?_
          exact ⟨⟨_, rfl⟩, .inr ⟨_, ⟨k + 1, by omega, by rw [entriesTo_yes (by rw [Hx.out]; exact hx0), Hx.out]⟩, hJx3⟩⟩
    · obtain rfl : k = 32 := by omega
      gi_wp2
      go_end0
      exact ⟨⟨_, rfl⟩, .inl ⟨_, rfl, hJs⟩⟩
set_option maxRecDepth 100000 in
set_option maxHeartbeats 2000000 in
theorem entries1_none (F : Fence) (n : Nat) (h20 : F.fn 20) (hro : F.round = none) (l Bs : Nat) (J : List (Nat × Int) → World → Prop)
    (W : World) (hBs : W.heap[Bs]? = some (.cells (ints .i64 zeros) 34 (0, 0))) (h0 : J [] W) :
    CallsIn F n Try.prog 20 #[.func (.yield l) #[] #[], .pointer (some ⟨Bs, 0, none⟩)] W fun e W' => (∃ v, e = .returned v) ∧ J [] W' := by
  have heq := eq34_zero_yes
  refine callsIn_of_wp Try.func20 rfl h20 ?_ hro
  simp only [Try.ntmps20, List.size_toArray, List.length_cons, List.length_nil, Nat.reduceAdd, Nat.reduceSub, Array.replicate_succ, Array.replicate_zero, List.push_toArray, List.append_toArray, List.nil_append, List.cons_append]
  gi_wp2_with (refine wpLI_load rfl 34 (.tmp 1) rfl _ rfl 34 (ints .i64 zeros) (0, 0) _ hBs Try.underlying34 rfl (size34_of rfl) ?_)
  refine bodyPost_ret (results_none rfl _ _ _) rfl ?_
  exact ⟨⟨_, rfl⟩, h0⟩
theorem entriesTo_zeros (k : Nat) : entriesTo zeros k = [] := by
  unfold entriesTo
  rw [List.map_eq_nil_iff, List.filter_eq_nil_iff]
  intro i _
  have : zeros[i]?.getD 0 = 0 := by
    unfold zeros
    rw [List.getElem?_replicate]
    split <;> rfl
  simp [this]

theorem entries_any (xs : List Int) (hs : xs.length = 32) (w : World) :
    Calls Try.prog 14 #[.agg (ints .i64 xs)] w fun e w' => e = .returned (.func (.func 20) #[] #[.pointer (some ⟨w.heap.size, 0, none⟩)]) ∧ w.alloc (.cells (ints .i64 xs) 34) = w' := by
  go_enter Try.func14, Try.ntmps14
  go_wp2
  go_ret
  exact ⟨rfl, rfl⟩

theorem entries_stops (F : Fence) (n : Nat) (h20 : F.fn 20) (hro : F.round = none) (hn : 1 ≤ n) (Bs n₀ : Nat) (xs : List Int) (hs : xs.length = 32) (w : World)
    (hc : w.heap[Bs]? = some (.cells (ints .i64 xs) 34 (0, 0))) :
    SeqStopsK F n Try.prog 20 #[.pointer (some ⟨Bs, 0, none⟩)] (fun x : Nat × Int => #[Value.int .i64 (x.1 : Int), Value.int .i64 x.2]) (Below n₀) (fun ys => ys = entriesTo xs 32)
      (fun pre => ∃ k, k ≤ 32 ∧ pre = entriesTo xs k) 32 w := fun l J Jx W hW _ _ hY h0 => by
  have hc' := blk_below hc hW (blk_lt hc)
  by_cases hz : xs = zeros
  · subst hz
    exact (entries1_none F n h20 hro l Bs J W hc' h0).mono fun e W' ⟨he, hj⟩ => ⟨he, .inl ⟨_, (entriesTo_zeros 32).symm, hj⟩⟩
  · exact entries1_some F n h20 hro hn l Bs n₀ xs hs hz J Jx hY W hc' h0
end Go.Proofs.Ytijlhdcebfglnaa
