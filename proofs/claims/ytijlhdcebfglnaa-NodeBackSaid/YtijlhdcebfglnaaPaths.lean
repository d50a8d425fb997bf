/-
  The contracts of node.Path, node.Page and their references over the program, and of the chapter's examples.
-/
import Derived.Test.YtijlhdcebfglnaaRows
import Derived.WalkKit
import Derived.WalkSpells
import Derived.WalkLawsBesides
namespace Go.Proofs.Ytijlhdcebfglnaa
open Go.RowKit

def pA (n : Int) : Int := if n < 0 ∨ 128 ≤ n then 0 else n / 32
def pB (n : Int) : Int := if n < 0 ∨ 128 ≤ n then 0 else n % 32
def pE (n : Int) : Int := if n < 0 ∨ 128 ≤ n then 1 else 0
def qP (t l : Int) : Int := if t < 0 ∨ 4 ≤ t ∨ l < 0 ∨ 32 ≤ l then 0 else t * 32 + l
def qE (t l : Int) : Int := if t < 0 ∨ 4 ≤ t ∨ l < 0 ∨ 32 ≤ l then 1 else 0
theorem pAll_in {n : Int} (h : ¬ (n < 0 ∨ 128 ≤ n)) : pA n = n / 32 ∧ pB n = n % 32 ∧ pE n = 0 := by
  unfold pA pB pE; rw [if_neg h, if_neg h, if_neg h]; exact ⟨rfl, rfl, rfl⟩
theorem pAll_out {n : Int} (h : n < 0 ∨ 128 ≤ n) : pA n = 0 ∧ pB n = 0 ∧ pE n = 1 := by
  unfold pA pB pE; rw [if_pos h, if_pos h, if_pos h]; exact ⟨rfl, rfl, rfl⟩
theorem qAll_in {t l : Int} (h : ¬ (t < 0 ∨ 4 ≤ t ∨ l < 0 ∨ 32 ≤ l)) : qP t l = t * 32 + l ∧ qE t l = 0 := by
  unfold qP qE; rw [if_neg h, if_neg h]; exact ⟨rfl, rfl⟩
theorem qAll_out {t l : Int} (h : t < 0 ∨ 4 ≤ t ∨ l < 0 ∨ 32 ≤ l) : qP t l = 0 ∧ qE t l = 1 := by
  unfold qP qE; rw [if_pos h, if_pos h]; exact ⟨rfl, rfl⟩
theorem ret3 {a b c a' b' c' : Int} (h : a' = a ∧ b' = b ∧ c' = c) : Ending.returned (.tuple #[.int .i64 a, .int .i64 b, .int .i64 c]) = .returned (.tuple #[.int .i64 a', .int .i64 b', .int .i64 c']) := by
  obtain ⟨rfl, rfl, rfl⟩ := h; rfl
theorem ret2 {a b a' b' : Int} (h : a' = a ∧ b' = b) : Ending.returned (.tuple #[.int .i64 a, .int .i64 b]) = .returned (.tuple #[.int .i64 a', .int .i64 b']) := by
  obtain ⟨rfl, rfl⟩ := h; rfl

set_option maxHeartbeats 400000 in
theorem path_any (n : Int) (w : World) :
    Calls Try.prog 9 #[.int .i64 n] w fun e w' => e = .returned (.tuple #[.int .i64 (pA n), .int .i64 (pB n), .int .i64 (pE n)]) ∧ w = w' := by
  by_cases h0 : n < 0
  · go_enter Try.func9, Try.ntmps9
    go_wp2
    go_ret3
    exact ⟨ret3 (pAll_out (.inl h0)), rfl⟩
  · by_cases h1 : 128 ≤ n
    · go_enter Try.func9, Try.ntmps9
      go_wp2
      go_ret3
      exact ⟨ret3 (pAll_out (.inr h1)), rfl⟩
    · go_enter Try.func9, Try.ntmps9
      go_wp2
      go_ret3
      exact ⟨ret3 (pAll_in (by omega)), rfl⟩
set_option maxHeartbeats 400000 in
theorem rpath_any (n : Int) (w : World) :
    Calls Try.prog 10 #[.int .i64 n] w fun e w' => e = .returned (.tuple #[.int .i64 (pA n), .int .i64 (pB n), .int .i64 (pE n)]) ∧ w = w' := by
  by_cases h0 : n < 0
  · go_enter Try.func10, Try.ntmps10
    go_wp2
    go_ret3
    exact ⟨ret3 (pAll_out (.inl h0)), rfl⟩
  · by_cases h1 : 128 ≤ n
    · go_enter Try.func10, Try.ntmps10
      go_wp2
      go_ret3
      exact ⟨ret3 (pAll_out (.inr h1)), rfl⟩
    · go_enter Try.func10, Try.ntmps10
      go_wp2
      go_ret3
      exact ⟨ret3 (pAll_in (by omega)), rfl⟩
set_option maxHeartbeats 400000 in
theorem page_any (t l : Int) (w : World) :
    Calls Try.prog 11 #[.int .i64 t, .int .i64 l] w fun e w' => e = .returned (.tuple #[.int .i64 (qP t l), .int .i64 (qE t l)]) ∧ w = w' := by
  by_cases h0 : t < 0
  · go_enter Try.func11, Try.ntmps11
    go_wp2
    go_ret2
    exact ⟨ret2 (qAll_out (.inl h0)), rfl⟩
  by_cases h1 : 4 ≤ t
  · go_enter Try.func11, Try.ntmps11
    go_wp2
    go_ret2
    exact ⟨ret2 (qAll_out (.inr (.inl h1))), rfl⟩
  by_cases h2 : l < 0
  · go_enter Try.func11, Try.ntmps11
    go_wp2
    go_ret2
    exact ⟨ret2 (qAll_out (.inr (.inr (.inl h2)))), rfl⟩
  by_cases h3 : 32 ≤ l
  · go_enter Try.func11, Try.ntmps11
    go_wp2
    go_ret2
    exact ⟨ret2 (qAll_out (.inr (.inr (.inr h3)))), rfl⟩
  · go_enter Try.func11, Try.ntmps11
    go_wp2
    go_ret2
    exact ⟨ret2 (qAll_in (by omega)), rfl⟩
set_option maxHeartbeats 400000 in
theorem rpage_any (t l : Int) (w : World) :
    Calls Try.prog 12 #[.int .i64 t, .int .i64 l] w fun e w' => e = .returned (.tuple #[.int .i64 (qP t l), .int .i64 (qE t l)]) ∧ w = w' := by
  by_cases h0 : t < 0
  · go_enter Try.func12, Try.ntmps12
    go_wp2
    go_ret2
    exact ⟨ret2 (qAll_out (.inl h0)), rfl⟩
  by_cases h1 : 4 ≤ t
  · go_enter Try.func12, Try.ntmps12
    go_wp2
    go_ret2
    exact ⟨ret2 (qAll_out (.inr (.inl h1))), rfl⟩
  by_cases h2 : l < 0
  · go_enter Try.func12, Try.ntmps12
    go_wp2
    go_ret2
    exact ⟨ret2 (qAll_out (.inr (.inr (.inl h2)))), rfl⟩
  by_cases h3 : 32 ≤ l
  · go_enter Try.func12, Try.ntmps12
    go_wp2
    go_ret2
    exact ⟨ret2 (qAll_out (.inr (.inr (.inr h3)))), rfl⟩
  · go_enter Try.func12, Try.ntmps12
    go_wp2
    go_ret2
    exact ⟨ret2 (qAll_in (by omega)), rfl⟩

set_option maxHeartbeats 400000 in
theorem awake_any (w : World) :
    Calls Try.prog 8 #[] w fun e w' => e = .returned (.bool true) ∧ w = w' := by
  have e1 : pA 70 = 2 := rfl
  have e2 : pB 70 = 6 := rfl
  have e3 : pE 70 = 0 := rfl
  have e4 : qP 2 6 = 70 := rfl
  have e5 : qE 2 6 = 0 := rfl
  have e6 : qE 4 0 = 1 := rfl
  go_enter Try.func8, Try.ntmps8
  go_wp2_with (first
    | (go_at_call 9; refine (path_any _ _).mono ?_; rintro e w' ⟨rfl, rfl⟩)
    | (go_at_call 11; refine (page_any _ _ _).mono ?_; rintro e w' ⟨rfl, rfl⟩))
  go_ret
  exact ⟨rfl, rfl⟩

set_option maxHeartbeats 400000 in
theorem paths_any (n t l : Int) (w : World) :
    Calls Try.prog 3 #[.int .i64 n, .int .i64 t, .int .i64 l] w fun e w' => e = .returned (.bool true) ∧ w = w' := by
  go_enter Try.func3, Try.ntmps3
  go_wp2_with (first
    | (go_at_call 8; refine (awake_any _).mono ?_; rintro e w' ⟨rfl, rfl⟩)
    | (go_at_call 9; refine (path_any _ _).mono ?_; rintro e w' ⟨rfl, rfl⟩)
    | (go_at_call 10; refine (rpath_any _ _).mono ?_; rintro e w' ⟨rfl, rfl⟩)
    | (go_at_call 11; refine (page_any _ _ _).mono ?_; rintro e w' ⟨rfl, rfl⟩)
    | (go_at_call 12; refine (rpage_any _ _ _).mono ?_; rintro e w' ⟨rfl, rfl⟩))
  go_ret
  exact ⟨rfl, rfl⟩
theorem nodePaths_walk (W : World) (n : Int) (_ : (Lit.int .i64 n).wf = true) (t : Int) (_ : (Lit.int .i64 t).wf = true) (l : Int) (_ : (Lit.int .i64 l).wf = true) :
    Calls Try.prog 3 #[.int .i64 n, .int .i64 t, .int .i64 l] W fun e W' => e = .returned (.bool true) ∧ Below W.heap.size W W' :=
  (paths_any n t l W).mono fun _ _ ⟨he, hw⟩ => ⟨he, hw ▸ Below.refl _ _⟩
end Go.Proofs.Ytijlhdcebfglnaa
