/-
  disk: the law's act: Read; all of it.
-/
import Derived.Test.YtpllifppjlakpaaDlH
namespace Go.Proofs.Ytpllifppjlakpaa.Dk
open Go.RowKit Go.Shelf Go.Proofs.Ytpllifppjlakpaa
attribute [local go_sem] Oper.semAt_some
set_option linter.unusedVariables false
set_option linter.unusedSimpArgs false
set_option maxHeartbeats 2000000 in
theorem lact_9 {W0 W : World} {d r : Nat} {s : Dk} {a : ActV} (h : Both W0 W d r s) (hh : Holds s) (hn : -9223372036854775808 ≤ a.n ∧ a.n ≤ 9223372036854775807) (h0 : a.do_ ≠ 0) (h1 : a.do_ ≠ 1) (h2 : a.do_ ≠ 2) (h3 : a.do_ ≠ 3) :
    Calls Try.prog 20 #[.pointer (some ⟨d, 0, none⟩), .pointer (some ⟨r, 0, none⟩), .agg a.cells.toArray] W fun e W' => e = .returned (.bool true) ∧ Both W0 W' d r s := by
  have hb5 := heap_alloc_last W (.cells a.cells.toArray 32)
  have hBA : Below W.heap.size W (W.alloc (.cells a.cells.toArray 32)) := (Below.refl _ _).alloc (Nat.le_refl _) _
  have h := h.keep hBA
  have hd0 : (a.do_ == 0) = false := ne_b h0
  have hd1 : (a.do_ == 1) = false := ne_b h1
  have hd2 : (a.do_ == 2) = false := ne_b h2
  have hd3 : (a.do_ == 3) = false := ne_b h3
  clear h0 h1 h2 h3 hBA
  obtain ⟨x0, x1, -⟩ := act_in hb5
  go_enter Try.func20, Try.ntmps20
  go_wp2_with fail
  generalize W.alloc (.cells a.cells.toArray 32) = W1 at h hb5 x0 x1 ⊢
  generalize W.heap.size = B5 at hb5 x0 x1 ⊢
  obtain ⟨hB, F, G, x, y, hfg, bF, bG⟩ := id h
  refine (read_all x hh a.n hn).mono ?_
  rintro e W2 ⟨hb2, A2, c2, rfl, q2⟩
  have y2 := y.below hb2
  have hb52 := (hb2.block _ (blk_lt hb5)).trans hb5
  obtain ⟨-, x1, -⟩ := act_in hb52
  go_wp2_with fail
  refine (rread_all y2 a.n).mono ?_
  rintro e W3 ⟨hb3, A3, c3, rfl, q3⟩
  have fin := (h.keep hb2).keep hb3
  have q2 := (q2.below hb3).more hb3.size
  clear x y y2 hb52 x0 x1 h hb2 hb3 hB hh hb5
  generalize readTot s a.n = z at q2 q3 ⊢
  obtain ⟨bs, k⟩ := z
  dsimp only at q2 q3 ⊢
  have st1 : (convert 22 9 (.slice A2 bs.length c2)).run Try.prog W3 = .ok (.string (strOfNums bs)) W3 := run_str q2
  have st2 : (convert 22 9 (.slice A3 bs.length c3)).run Try.prog W3 = .ok (.string (strOfNums bs)) W3 := run_str q3
  clear q2 q3
  generalize strOfNums bs = str at st1 st2
  go_wp2_with (first | (refine list_runs (by rfl) (runs_convert rfl rfl st1) ?_) | (refine list_runs (by rfl) (runs_convert rfl rfl st2) ?_))
  go_ret
  exact ⟨rfl, fin⟩
theorem lact_any {W0 W : World} {d r : Nat} {s : Dk} {a : ActV} (h : Both W0 W d r s) (hh : Holds s) (hQ : s.Q.length < 1954687338211) (ha : ActOk W0 a) :
    Calls Try.prog 20 #[.pointer (some ⟨d, 0, none⟩), .pointer (some ⟨r, 0, none⟩), .agg a.cells.toArray] W fun e W' => e = .returned (.bool true) ∧ Both W0 W' d r (stepDk s a) := by
  unfold stepDk
  split
  · rename_i h0
    exact lact_0 h hQ ha h0
  · split
    · rename_i h1
      exact lact_1 h hh h1
    · split
      · rename_i h2
        exact lact_2 h ha h2
      · split
        · rename_i h3
          exact lact_3 h ha h3
        · rename_i h0 h1 h2 h3
          exact lact_9 h hh ha.n h0 h1 h2 h3
end Go.Proofs.Ytpllifppjlakpaa.Dk
