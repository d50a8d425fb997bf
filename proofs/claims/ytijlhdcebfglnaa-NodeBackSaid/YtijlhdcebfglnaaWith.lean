/-
  node.With: its contract
-/
import Derived.Test.YtijlhdcebfglnaaPaths
import Derived.Test.YtijlhdcebfglnaaArr
namespace Go.Proofs.Ytijlhdcebfglnaa
open Go.RowKit
theorem size34 : (Try.prog.info? 34).map (·.size) = some 32 := by kernel_rfl
theorem size3 : (Try.prog.info? 3).map (·.size) = some 1 := by kernel_rfl
theorem size34_of {k : IntKind} {xs : List Int} (h : xs.length = 32) : (Try.prog.info? 34).map (·.size) = some (ints k xs).size := by rw [size34, ints_size, h]
def zeros : List Int := List.replicate 32 0
theorem zeros_length : zeros.length = 32 := rfl
theorem build34 (w : World) : (Instr.build 34 #[]).run Try.prog w = .ok (.agg (ints .i64 zeros)) w := by kernel_rfl
theorem zeroValue34 (w : World) : (zeroValue 34).run Try.prog w = .ok (.agg (ints .i64 zeros)) w := by kernel_rfl
theorem eq34 (xs ys : List Int) (hx : xs.length = 32) (hy : ys.length = 32) (w : World) : (Op.equalIn 10000 34 (.agg (ints .i64 xs)) (.agg (ints .i64 ys))).run Try.prog w = .ok (decide (xs = ys)) w :=
  run_equalIn_ints w 9998 xs ys Try.underlying34 Try.underlying3 size3 hx hy
theorem lenset {xs : List Int} (h : xs.length = 32) (k : Nat) (s : Int) : (xs.set k s).length = 32 := by simp [h]
theorem zeros_one : (ints .i64 zeros).size = 32 := by rw [ints_size]; rfl
set_option maxHeartbeats 400000 in
theorem with_in (xs : List Int) (hs : xs.length = 32) (k : Nat) (hk : k < 32) (s : Int) (w : World) :
    Calls Try.prog 13 #[.agg (ints .i64 xs), .int .i64 k, .int .i64 s] w fun e w' => e = .returned (.tuple #[.agg (ints .i64 (xs.set k s)), .int .i64 0]) ∧ Below w.heap.size w w' := by
  have h0 : ¬ ((k : Int) < 0) := by omega
  have h1 : ¬ (32 ≤ (k : Int)) := by omega
  have hsz : k < (ints .i64 xs).size := by rw [ints_size]; omega
  have hsz2 : k < xs.length := by omega
  have hz := zeroValue34
  have hset := ints_set .i64 xs k s
  go_enter Try.func13, Try.ntmps13
  go_wp2_with (first
    | (refine wpL_load rfl 34 _ rfl _ rfl 34 (ints .i64 (xs.set k s)) (0, 0) _ (heap_alloc2_old _ _ _) Try.underlying34 rfl (size34_of (lenset hs k s)) ?_)
    | (refine wpL_store rfl 34 _ _ rfl _ (ints .i64 (xs.set k s)) rfl rfl 34 (ints .i64 zeros) (heap_alloc2_new _ _ _) (size34_of (lenset hs k s)) (by rw [zeros_one, ints_size, lenset hs k s]) (ints_one _ _) ?_; rw [setRow_last _ _ _ _ _ (by simp)]))
  refine bodyPost_ret (results_row_tmp _ rfl _ _ 34 (ints .i64 (xs.set k s)) (0, 0) _ rfl (heap_alloc2_new _ _ _) Try.underlying34 rfl (size34_of (lenset hs k s))) rfl ?_
  exact ⟨rfl, ((Below.refl _ _).alloc (Nat.le_refl _) _).alloc (by simp) _⟩
set_option maxHeartbeats 400000 in
theorem with_out (xs : List Int) (k : Int) (hk : k < 0 ∨ 32 ≤ k) (s : Int) (w : World) :
    Calls Try.prog 13 #[.agg (ints .i64 xs), .int .i64 k, .int .i64 s] w fun e w' => e = .returned (.tuple #[.agg (ints .i64 zeros), .int .i64 1]) ∧ Below w.heap.size w w' := by
  have hz := zeroValue34
  have hb := build34
  rcases hk with h0 | h0
  · go_enter Try.func13, Try.ntmps13
    go_wp2_with (refine wpL_store rfl 34 _ _ rfl _ (ints .i64 zeros) rfl rfl 34 (ints .i64 zeros) (heap_alloc2_new _ _ _) (size34_of rfl) rfl (ints_one _ _) ?_; rw [setRow_last _ _ _ _ _ (by simp)])
    refine bodyPost_ret (results_row_tmp _ rfl _ _ 34 (ints .i64 zeros) (0, 0) _ rfl (heap_alloc2_new _ _ _) Try.underlying34 rfl (size34_of rfl)) rfl ?_
    exact ⟨rfl, ((Below.refl _ _).alloc (Nat.le_refl _) _).alloc (by simp) _⟩
  · have h1 : ¬ k < 0 := by omega
    go_enter Try.func13, Try.ntmps13
    go_wp2_with (refine wpL_store rfl 34 _ _ rfl _ (ints .i64 zeros) rfl rfl 34 (ints .i64 zeros) (heap_alloc2_new _ _ _) (size34_of rfl) rfl (ints_one _ _) ?_; rw [setRow_last _ _ _ _ _ (by simp)])
    refine bodyPost_ret (results_row_tmp _ rfl _ _ 34 (ints .i64 zeros) (0, 0) _ rfl (heap_alloc2_new _ _ _) Try.underlying34 rfl (size34_of rfl)) rfl ?_
    exact ⟨rfl, ((Below.refl _ _).alloc (Nat.le_refl _) _).alloc (by simp) _⟩

theorem eq34_same (xs : List Int) (h : xs.length = 32) (w : World) : (Op.equalIn 10000 34 (.agg (ints .i64 xs)) (.agg (ints .i64 xs))).run Try.prog w = .ok true w := by
  rw [eq34 xs xs h h, decide_eq_true rfl]
set_option maxHeartbeats 400000 in
theorem nodeWith_in (xs : List Int) (hs : xs.length = 32) (k : Nat) (hk : k < 32) (s : Int) (w : World) :
    Calls Try.prog 4 #[.agg (ints .i64 xs), .int .i64 k, .int .i64 s] w fun e w' => e = .returned (.bool true) ∧ Below w.heap.size w w' := by
  have h0 : ¬ ((k : Int) < 0) := by omega
  have h1 : ¬ (32 ≤ (k : Int)) := by omega
  have hz := zeroValue34
  have heq := eq34_same (xs.set k s) (lenset hs k s)
  go_enter Try.func4, Try.ntmps4
  go_wp2_with (first
    | (go_at_call 8; refine (awake_any _).mono ?_; rintro e w' ⟨rfl, rfl⟩)
    | (refine wpL_load rfl 34 _ rfl _ rfl 34 (ints .i64 xs) (0, 0) _ (heap_alloc_new _ _) Try.underlying34 rfl (size34_of hs) ?_)
    )
  refine (with_in xs hs k hk s _).mono ?_
  rintro e w1 ⟨rfl, hb1⟩
  have hblk : w1.heap[w.heap.size]? = some (.cells (ints .i64 xs) 34 (0, 0)) := blk_below (heap_alloc_new w _) hb1 (by simp)
  have hlt := blk_lt hblk
  have hc := cell_blk hblk k (by omega)
  have hf := frozen_blk hblk k
  have Hb := Lib.hid hblk
  clear hblk
  go_wp2_with (first
    | (refine wpL_store rfl 34 _ _ rfl _ (ints .i64 (xs.set k s)) rfl rfl 34 (ints .i64 zeros) (heap_alloc_new _ _) (size34_of (lenset hs k s)) (by rw [zeros_one, ints_size, lenset hs k s]) (ints_one _ _) ?_; rw [setRow_last _ _ _ _ _ rfl])
    | (refine wpL_load rfl 34 (.tmp 7) rfl _ rfl 34 (ints .i64 (xs.set k s)) (0, 0) _ (blk_new _ _ (by simp)) Try.underlying34 rfl (size34_of (lenset hs k s)) ?_)
    | (refine wpL_load rfl 34 (.tmp 3) rfl _ rfl 34 (ints .i64 (xs.set k s)) (0, 0) _ (blk_alloc (blk_set Hb.out _ _) _) Try.underlying34 rfl (size34_of (lenset hs k s)) ?_)
    )
  go_ret
  exact ⟨rfl, ((((Below.refl _ _).alloc (Nat.le_refl _) _).trans (hb1.mono (by simp))).setCell (by simp) _).alloc (by simp; omega) _⟩
set_option maxHeartbeats 400000 in
theorem nodeWith_out (xs : List Int) (hs : xs.length = 32) (k : Int) (hk : k < 0 ∨ 32 ≤ k) (s : Int) (w : World) :
    Calls Try.prog 4 #[.agg (ints .i64 xs), .int .i64 k, .int .i64 s] w fun e w' => e = .returned (.bool true) ∧ Below w.heap.size w w' := by
  have hz := zeroValue34
  have hb := build34
  have heq := eq34_same zeros rfl
  rcases hk with h0 | h0
  · go_enter Try.func4, Try.ntmps4
    go_wp2_with (first
      | (go_at_call 8; refine (awake_any _).mono ?_; rintro e w' ⟨rfl, rfl⟩)
      | (refine wpL_load rfl 34 (.tmp 3) rfl _ rfl 34 (ints .i64 xs) (0, 0) _ (heap_alloc_new _ _) Try.underlying34 rfl (size34_of hs) ?_))
    refine (with_out xs k (.inl h0) s _).mono ?_
    rintro e w1 ⟨rfl, hb1⟩
    go_wp2_with (first
      | (refine wpL_store rfl 34 _ _ rfl _ (ints .i64 zeros) rfl rfl 34 (ints .i64 zeros) (heap_alloc_new _ _) (size34_of rfl) rfl (ints_one _ _) ?_; rw [setRow_last _ _ _ _ _ rfl])
      | (refine wpL_load rfl 34 (.tmp 7) rfl _ rfl 34 (ints .i64 zeros) (0, 0) _ (blk_new _ _ (by simp)) Try.underlying34 rfl (size34_of rfl) ?_))
    go_ret
    exact ⟨rfl, (((Below.refl _ _).alloc (Nat.le_refl _) _).trans (hb1.mono (by simp))).alloc (by have := hb1.size; simp at this; omega) _⟩
  · have h1 : ¬ k < 0 := by omega
    go_enter Try.func4, Try.ntmps4
    go_wp2_with (first
      | (go_at_call 8; refine (awake_any _).mono ?_; rintro e w' ⟨rfl, rfl⟩)
      | (refine wpL_load rfl 34 (.tmp 3) rfl _ rfl 34 (ints .i64 xs) (0, 0) _ (heap_alloc_new _ _) Try.underlying34 rfl (size34_of hs) ?_))
    refine (with_out xs k (.inr h0) s _).mono ?_
    rintro e w1 ⟨rfl, hb1⟩
    go_wp2_with (first
      | (refine wpL_store rfl 34 _ _ rfl _ (ints .i64 zeros) rfl rfl 34 (ints .i64 zeros) (heap_alloc_new _ _) (size34_of rfl) rfl (ints_one _ _) ?_; rw [setRow_last _ _ _ _ _ rfl])
      | (refine wpL_load rfl 34 (.tmp 7) rfl _ rfl 34 (ints .i64 zeros) (0, 0) _ (blk_new _ _ (by simp)) Try.underlying34 rfl (size34_of rfl) ?_))
    go_ret
    exact ⟨rfl, (((Below.refl _ _).alloc (Nat.le_refl _) _).trans (hb1.mono (by simp))).alloc (by have := hb1.size; simp at this; omega) _⟩

theorem nodeWith_walk (W : World) {H : Type} {enc : TypeId × Value → H} {base : Nat} {d : DataW H} {p : List MemPlace} (v : Value)
    (hok : Value.okWide Try.prog W .any base 34 v) (ht : DataW.Trod enc Try.prog W 0 (fun _ => true) true 34 v d p)
    (k : Int) (_ : (Lit.int .i64 k).wf = true) (s : Int) (_ : (Lit.int .i64 s).wf = true) :
    Calls Try.prog 4 #[v, .int .i64 k, .int .i64 s] W fun e w' => e = .returned (.bool true) ∧ Below W.heap.size W w' := by
  obtain ⟨xs, rfl, hs, _⟩ := open_arr Try.underlying34 Try.underlying3 (by kernel_rfl) (by kernel_rfl) hok ht
  by_cases h : k < 0 ∨ 32 ≤ k
  · exact nodeWith_out xs hs k h s W
  · obtain ⟨n, rfl⟩ := Int.eq_ofNat_of_zero_le (a := k) (by omega)
    exact nodeWith_in xs hs n (by omega) s W
end Go.Proofs.Ytijlhdcebfglnaa
