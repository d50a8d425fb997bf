/-
  DigitsShows, DigitsMarks: the laws' walks.
-/
import Derived.Test.YtkmnlbjnohjjgaaShows
import Derived.Test.YtkmnlbjnohjjgaaReadsLaw
namespace Go.Proofs.Ytkmnlbjnohjjgaa
open Go.RowKit PDigitsShowsShow
set_option linter.unusedVariables false
set_option linter.unusedSimpArgs false

theorem i64_wf {a : Int} (h : (Lit.int .i64 a).wf = true) : -9223372036854775808 ≤ a ∧ a ≤ 9223372036854775807 := by
  have e1 : IntKind.i64.min = -9223372036854775808 := by decide
  have e2 : IntKind.i64.max = 9223372036854775807 := by decide
  simp [Lit.wf] at h
  omega
/-- A number without sign, shown. -/
def showUL (z b : Int) : List Int := (digs (baseOf b).toNat 65 z.toNat).map digC
theorem showU_l (z b : Int) (h0 : 0 ≤ z) (h1 : z < 18446744073709551616) : PDigitsShows.digits_ShowU.f 70 z b = some (strOfNums (showUL z b)) ∧ PDigitsShows.carrelref15_ShowU.f 70 z b = some (strOfNums (showUL z b)) := by
  obtain ⟨n, hn, h2, h36⟩ := base_nat b
  have hnt : (baseOf b).toNat = n := by rw [hn]; rfl
  have e : z = (z.toNat : Int) := by omega
  unfold showUL
  rw [hnt]
  have f1 := showU_f z.toNat b (by omega) n hn h2 h36
  have f2 := rshowU_f z.toNat b (by omega) n hn h2 h36
  rw [← e] at f1 f2
  exact ⟨f1, f2⟩
theorem show_any (z b : Int) (h : (Lit.int .i64 z).wf = true) (w : World) : Calls Try.prog 12 #[.int .i64 z, .int .i64 b] w fun e w' => e = .returned (.string (strOfNums (showL z b))) ∧ Below w.heap.size w w' :=
  PDigitsShows.digits_Show.calls 70 z b _ w (show_f z b (i64_wf h).1 (i64_wf h).2)
theorem rshow_any (z b : Int) (h : (Lit.int .i64 z).wf = true) (w : World) : Calls Try.prog 13 #[.int .i64 z, .int .i64 b] w fun e w' => e = .returned (.string (strOfNums (showL z b))) ∧ Below w.heap.size w w' := by
  refine (PDigitsShows.carrelref15_Show.calls 70 z b _ w (rshow_f z b (i64_wf h).1 (i64_wf h).2)).mono ?_
  rintro e w' ⟨rfl, n, rfl⟩
  exact ⟨rfl, below_drewN (Below.refl _ _) _⟩
theorem showU_any (z b : Int) (h0 : 0 ≤ z) (h1 : z < 18446744073709551616) (w : World) : Calls Try.prog 14 #[.int .u64 z, .int .i64 b] w fun e w' => e = .returned (.string (strOfNums (showUL z b))) ∧ Below w.heap.size w w' :=
  PDigitsShows.digits_ShowU.calls 70 z b _ w (showU_l z b h0 h1).1
theorem rshowU_any (z b : Int) (h0 : 0 ≤ z) (h1 : z < 18446744073709551616) (w : World) : Calls Try.prog 15 #[.int .u64 z, .int .i64 b] w fun e w' => e = .returned (.string (strOfNums (showUL z b))) ∧ Below w.heap.size w w' := by
  refine (PDigitsShows.carrelref15_ShowU.calls 70 z b _ w (showU_l z b h0 h1).2).mono ?_
  rintro e w' ⟨rfl, n, rfl⟩
  exact ⟨rfl, below_drewN (Below.refl _ _) _⟩

set_option maxHeartbeats 1000000 in
theorem digitsShows_walk (W : World) (n : Int) (hn : (Lit.int .i64 n).wf = true) (b : Int) (_ : (Lit.int .i64 b).wf = true) :
    Calls Try.prog 4 #[.int .i64 n, .int .i64 b] W fun e W' => e = .returned (.bool true) ∧ Below W.heap.size W W' := by
  have h1 := show_any n b hn
  have h2 := rshow_any n b hn
  have h3 := showU_any (n % 18446744073709551616) b (by omega) (by omega)
  have h4 := rshowU_any (n % 18446744073709551616) b (by omega) (by omega)
  generalize strOfNums (showL n b) = s at h1 h2
  generalize strOfNums (showUL (n % 18446744073709551616) b) = t at h3 h4
  go_enter Try.func4, Try.ntmps4
  go_wp2_with fail
  refine (digAwake_any _).mono ?_
  rintro e w1 ⟨rfl, hb1⟩
  go_wp2_with fail
  refine (h1 _).mono ?_
  rintro e w2 ⟨rfl, hb2⟩
  have hbA := hb1.trans (hb2.mono hb1.size)
  go_wp2_with fail
  refine (h2 _).mono ?_
  rintro e w3 ⟨rfl, hb3⟩
  have hbB := hbA.trans (hb3.mono hbA.size)
  go_wp2_with fail
  refine (h3 _).mono ?_
  rintro e w4 ⟨rfl, hb4⟩
  have hbC := hbB.trans (hb4.mono hbB.size)
  go_wp2_with fail
  refine (h4 _).mono ?_
  rintro e w5 ⟨rfl, hb5⟩
  have hbD := hbC.trans (hb5.mono hbC.size)
  go_wp2_with fail
  go_ret
  exact ⟨rfl, hbD⟩
end Go.Proofs.Ytkmnlbjnohjjgaa
