/-
  DigitsReads: the examples; the law's walk.
-/
import Derived.Test.YtkmnlbjnohjjgaaReads
namespace Go.Proofs.Ytkmnlbjnohjjgaa
open Go.RowKit
set_option linter.unusedVariables false

theorem num_ex1 : numAll ⟨#[36, 45, 49, 70]⟩ 10 = (-31, true) := by decide +kernel
theorem num_ex2 : (numAll ⟨#[45, 36, 49, 70]⟩ 10).2 = false := by decide +kernel
theorem show_ex : PDigitsReads.digits_Show.f 9 (-255) 16 = some ⟨#[45, 70, 70]⟩ := by decide +kernel
theorem showU_ex : PDigitsReads.digits_ShowU.f 9 35 36 = some ⟨#[90]⟩ := by decide +kernel
theorem number_t (s : ByteArray) (b : Int) (w : World) : Calls Try.prog 8 #[.string s, .int .i64 b] w fun e w' => e = .returned (.tuple #[.int .i64 (numAll s b).1, .bool (numAll s b).2]) ∧ Below w.heap.size w w' := number_any s b w
theorem rnumber_t (s : ByteArray) (b : Int) (hs : s.size ≤ 140737488351232) (w : World) : Calls Try.prog 9 #[.string s, .int .i64 b] w fun e w' => e = .returned (.tuple #[.int .i64 (numAll s b).1, .bool (numAll s b).2]) ∧ Below w.heap.size w w' := by
  refine (PDigitsReads.carrelref15_Number.calls (s.size + 9) s b (numAll s b).1 (numAll s b).2 w (rnum_f s b hs _ (by omega))).mono ?_
  rintro e w' ⟨rfl, n, rfl⟩
  exact ⟨rfl, below_drewN (Below.refl _ _) _⟩
theorem rbase_t (b : Int) (w : World) : Calls Try.prog 11 #[.int .i64 b] w fun e w' => e = .returned (.int .i64 (baseOf b)) ∧ Below w.heap.size w w' := by
  refine (PDigitsReads.carrelref15_Base.calls b _ w (rbase_f b)).mono ?_
  rintro e w' ⟨rfl, n, rfl⟩
  exact ⟨rfl, below_drewN (Below.refl _ _) _⟩
theorem show_t (k : Nat) (n b : Int) (r : ByteArray) (h : PDigitsReads.digits_Show.f k n b = some r) (w : World) : Calls Try.prog 12 #[.int .i64 n, .int .i64 b] w fun e w' => e = .returned (.string r) ∧ Below w.heap.size w w' :=
  PDigitsReads.digits_Show.calls k n b r w h
theorem showU_t (k : Nat) (n b : Int) (r : ByteArray) (h : PDigitsReads.digits_ShowU.f k n b = some r) (w : World) : Calls Try.prog 14 #[.int .u64 n, .int .i64 b] w fun e w' => e = .returned (.string r) ∧ Below w.heap.size w w' :=
  PDigitsReads.digits_ShowU.calls k n b r w h

set_option maxHeartbeats 1000000 in
theorem digAwake_any (w : World) : Calls Try.prog 7 #[] w fun e w' => e = .returned (.bool true) ∧ Below w.heap.size w w' := by
  have h1 := number_t ⟨#[36, 45, 49, 70]⟩ 10
  have h2 := number_t ⟨#[45, 36, 49, 70]⟩ 10
  rw [num_ex1] at h1
  rw [num_ex2] at h2
  generalize (numAll ⟨#[45, 36, 49, 70]⟩ 10).1 = z at h2
  go_enter Try.func7, Try.ntmps7
  go_wp2_with fail
  refine (h1 _).mono ?_
  rintro e w1 ⟨rfl, hb1⟩
  go_wp2_with fail
  refine (h2 _).mono ?_
  rintro e w2 ⟨rfl, hb2⟩
  have hbA := hb1.trans (hb2.mono hb1.size)
  go_wp2_with fail
  refine (show_t 9 (-255) 16 _ show_ex _).mono ?_
  rintro e w3 ⟨rfl, hb3⟩
  have hbB := hbA.trans (hb3.mono hbA.size)
  go_wp2_with fail
  refine (showU_t 9 35 36 _ showU_ex _).mono ?_
  rintro e w4 ⟨rfl, hb4⟩
  have hbC := hbB.trans (hb4.mono hbB.size)
  go_wp2_with fail
  go_ret
  exact ⟨rfl, hbC⟩

set_option maxHeartbeats 1000000 in
theorem digitsReads_walk (W : World) (s : ByteArray) (hs : s.size ≤ 140737488351232) (b : Int) (_ : (Lit.int .i64 b).wf = true) :
    Calls Try.prog 3 #[.string s, .int .i64 b] W fun e W' => e = .returned (.bool true) ∧ Below W.heap.size W W' := by
  by_cases hn : s.size ≤ 1000
  · have h1 := number_t s b
    have h2 := rnumber_t s b hs
    have h3 := base_any b
    have h4 := rbase_t b
    rw [show (if 2 ≤ b ∧ b ≤ 36 then b else 10) = baseOf b from rfl] at h3
    generalize (numAll s b).1 = x at h1 h2
    generalize (numAll s b).2 = y at h1 h2
    generalize baseOf b = z at h3 h4
    go_enter Try.func3, Try.ntmps3
    go_wp2_with fail
    refine (digAwake_any _).mono ?_
    rintro e w1 ⟨rfl, hb1⟩
    go_wp2_with fail
    refine (h1 _).mono ?_
    rintro e w2 ⟨rfl, hb2⟩
    have hbA := hb1.trans (hb2.mono hb1.size)
    go_wp2_with fail
    refine (h2 _).mono ?_
    rintro e w3 ⟨rfl, hb3⟩
    have hbB := hbA.trans (hb3.mono hbA.size)
    go_wp2_with fail
    refine (h3 _).mono ?_
    rintro e w4 ⟨rfl, rfl⟩
    go_wp2_with fail
    refine (h4 _).mono ?_
    rintro e w4 ⟨rfl, hb4⟩
    have hbC := hbB.trans (hb4.mono hbB.size)
    go_wp2_with fail
    go_ret
    exact ⟨rfl, hbC⟩
  · go_enter Try.func3, Try.ntmps3
    go_wp2_with fail
    refine (digAwake_any _).mono ?_
    rintro e w1 ⟨rfl, hb1⟩
    go_wp2_with fail
    go_ret
    exact ⟨rfl, hb1⟩
end Go.Proofs.Ytkmnlbjnohjjgaa
