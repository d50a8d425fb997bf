/-
  disk: a disk that nobody made.
-/
import Derived.Test.YtpllifppjlakpaaDkH
namespace Go.Proofs.Ytpllifppjlakpaa.Dk
open Go.RowKit Go.Shelf Go.Proofs.Ytpllifppjlakpaa
attribute [local go_sem] Oper.semAt_some
set_option linter.unusedVariables false
set_option linter.unusedSimpArgs false
def noCells (ar : Int) : Array Value := #[.slice none 0 0, .map none, .slice none 0 0, .int .i64 ar, .int .i64 0, .bool false]
/-- No disk: nil, or one that nobody made, in block B. -/
def NoDisk (W : World) (B : Nat) (v : Value) : Prop := (v = .pointer none ∨ v = .pointer (some ⟨B, 0, none⟩)) ∧ ∃ ar, W.heap[B]? = some (.cells (noCells ar) 58 (0, 0))
theorem none_up {W : World} {B : Nat} {v : Value} (h : NoDisk W B v) : Calls Try.prog 26 #[v] W fun e W' => e = .returned (.bool false) ∧ W = W' := by
  have hm := nil_ne
  obtain ⟨rfl | rfl, ar, hb⟩ := h
  · go_enter Try.func26, Try.ntmps26
    go_wp2
    go_ret
    exact ⟨rfl, rfl⟩
  · obtain ⟨c0, c1, c2, c3, c4, c5⟩ := six hb
    go_enter Try.func26, Try.ntmps26
    go_wp2
    go_ret
    exact ⟨rfl, rfl⟩
theorem none_len {W : World} {B : Nat} {v : Value} (h : NoDisk W B v) : Calls Try.prog 15 #[v] W fun e W' => e = .returned (.int .i64 0) ∧ W = W' := by
  obtain ⟨rfl | rfl, ar, hb⟩ := h
  · go_enter Try.func15, Try.ntmps15
    go_wp2
    go_ret
    exact ⟨rfl, rfl⟩
  · obtain ⟨c0, c1, c2, c3, c4, c5⟩ := six hb
    go_enter Try.func15, Try.ntmps15
    go_wp2
    go_ret
    exact ⟨rfl, rfl⟩
theorem none_acts {W : World} {B : Nat} {v : Value} (h : NoDisk W B v) : Calls Try.prog 24 #[v] W fun e W' => e = .returned (.int .i64 0) ∧ W = W' := by
  obtain ⟨rfl | rfl, ar, hb⟩ := h
  · go_enter Try.func24, Try.ntmps24
    go_wp2
    go_ret
    exact ⟨rfl, rfl⟩
  · obtain ⟨c0, c1, c2, c3, c4, c5⟩ := six hb
    go_enter Try.func24, Try.ntmps24
    go_wp2
    go_ret
    exact ⟨rfl, rfl⟩
theorem none_down {W : World} {B : Nat} {v : Value} (h : NoDisk W B v) : Calls Try.prog 23 #[v] W fun e W' => e = .returned (.bool true) ∧ W = W' := by
  have hu := none_up h
  go_enter Try.func23, Try.ntmps23
  go_wp2_with fail
  refine hu.mono ?_
  rintro e W' ⟨rfl, rfl⟩
  go_wp2_with fail
  go_ret
  exact ⟨rfl, rfl⟩
theorem none_flush {W : World} {B : Nat} {v : Value} (h : NoDisk W B v) : Calls Try.prog 13 #[v] W fun e W' => e = .returned (.int .i64 20) ∧ W = W' := by
  have hu := none_up h
  go_enter Try.func13, Try.ntmps13
  go_wp2_with fail
  refine hu.mono ?_
  rintro e W' ⟨rfl, rfl⟩
  go_wp2_with fail
  go_ret
  exact ⟨rfl, rfl⟩
theorem none_write {W : World} {B : Nat} {v : Value} (h : NoDisk W B v) (n : Int) (A : Option Addr) (m c : Nat) : Calls Try.prog 11 #[v, .int .i64 n, .slice A m c] W fun e W' => e = .returned (.int .i64 20) ∧ W = W' := by
  have hu := none_up h
  go_enter Try.func11, Try.ntmps11
  go_wp2_with fail
  refine hu.mono ?_
  rintro e W' ⟨rfl, rfl⟩
  go_wp2_with fail
  go_ret
  exact ⟨rfl, rfl⟩
theorem none_read {W : World} {B : Nat} {v : Value} (h : NoDisk W B v) (n : Int) : Calls Try.prog 16 #[v, .int .i64 n] W fun e W' => e = .returned (.tuple #[.slice none 0 0, .int .i64 20]) ∧ W = W' := by
  have hu := none_up h
  go_enter Try.func16, Try.ntmps16
  go_wp2_with fail
  refine hu.mono ?_
  rintro e W' ⟨rfl, rfl⟩
  go_wp2_with fail
  go_ret2
  exact ⟨rfl, rfl⟩
theorem none_arm {W : World} {B : Nat} {v : Value} (h : NoDisk W B v) (k : Int) : Calls Try.prog 22 #[v, .int .i64 k] W fun e W' => e = .returned (.tuple #[]) ∧ NoDisk W' B v ∧ Keeps (fun b => b = B) W W' := by
  obtain ⟨rfl | rfl, ar, hb⟩ := h
  · go_enter Try.func22, Try.ntmps22
    go_wp2
    go_end0
    exact ⟨rfl, ⟨.inl rfl, ar, hb⟩, Keeps.refl _ _⟩
  · obtain ⟨c0, c1, c2, c3, c4, c5⟩ := six hb
    have f3 := frozen_blk hb 3
    have fin : ∀ z, NoDisk (W.setCell ⟨B, 3, none⟩ (.int .i64 z)) B (.pointer (some ⟨B, 0, none⟩)) := fun z => ⟨.inr rfl, z, heap_setCell_same W B 3 _ 58 _ hb⟩
    have kp : ∀ z, Keeps (fun b => b = B) W (W.setCell ⟨B, 3, none⟩ z) := fun z => (Keeps.refl (fun b => b = B) W).set (F := fun b => b = B) rfl 3 z
    rcases (by omega : k < -1 ∨ -1 ≤ k) with hk1 | hk1
    · go_enter Try.func22, Try.ntmps22
      go_wp2
      go_end0
      exact ⟨rfl, fin _, kp _⟩
    · have hk2 : ¬ k < -1 := by omega
      go_enter Try.func22, Try.ntmps22
      go_wp2
      go_end0
      exact ⟨rfl, fin _, kp _⟩
theorem none_restart {W : World} {B : Nat} {v : Value} (h : NoDisk W B v) (cs : Array Value) : Calls Try.prog 12 #[v, .agg cs] W fun e W' => e = .returned (.tuple #[]) ∧ Below W.heap.size W W' := by
  have hm := nil_eq
  have hB := ((Below.refl W.heap.size W).alloc (Nat.le_refl _) (.cells cs 30))
  obtain ⟨rfl | rfl, ar, hb⟩ := h
  · go_enter Try.func12, Try.ntmps12
    go_wp2_with fail
    ((try simp only [Exit.inBlock, Exit.then]); refine bodyPost_ret (results_none rfl _ _ _) rfl ?_)
    exact ⟨rfl, hB⟩
  · have hb1 := blk_alloc hb (.cells cs 30)
    obtain ⟨c0, c1, c2, c3, c4, c5⟩ := six hb1
    go_enter Try.func12, Try.ntmps12
    go_wp2_with fail
    ((try simp only [Exit.inBlock, Exit.then]); refine bodyPost_ret (results_none rfl _ _ _) rfl ?_)
    exact ⟨rfl, hB⟩
theorem none_bytes {W : World} {B : Nat} {v : Value} (h : NoDisk W B v) : Calls Try.prog 14 #[v] W fun e W' => e = .returned (.slice none 0 0) ∧ W = W' := by
  obtain ⟨rfl | rfl, ar, hb⟩ := h
  · go_enter Try.func14, Try.ntmps14
    go_wp2
    go_ret
    exact ⟨rfl, rfl⟩
  · obtain ⟨c0, c1, c2, c3, c4, c5⟩ := six hb
    go_enter Try.func14, Try.ntmps14
    go_wp2
    go_loopw [3, 12] (fun v3 v wr => v = .int .i64 0 ∧ v3 = .slice none 0 0 ∧ wr = W) (fun _ _ _ => 0)
    case atStart => exact ⟨rfl, rfl, rfl⟩
    case round =>
      obtain ⟨rfl, rfl, rfl⟩ := hrel
      go_wp2
      go_ret
      exact ⟨rfl, rfl⟩
theorem none_waiting {W : World} {B : Nat} {v : Value} (h : NoDisk W B v) : Calls Try.prog 17 #[v] W fun e W' => e = .returned (.slice none 0 0) ∧ W = W' := by
  obtain ⟨rfl | rfl, ar, hb⟩ := h
  · go_enter Try.func17, Try.ntmps17
    go_wp2
    go_ret
    exact ⟨rfl, rfl⟩
  · obtain ⟨c0, c1, c2, c3, c4, c5⟩ := six hb
    go_enter Try.func17, Try.ntmps17
    go_wp2
    go_loopw [3, 14] (fun v3 v wr => v = .int .i64 0 ∧ v3 = .slice none 0 0 ∧ wr = W) (fun _ _ _ => 0)
    case atStart => exact ⟨rfl, rfl, rfl⟩
    case round =>
      obtain ⟨rfl, rfl, rfl⟩ := hrel
      go_wp2
      go_ret
      exact ⟨rfl, rfl⟩
end Go.Proofs.Ytpllifppjlakpaa.Dk
