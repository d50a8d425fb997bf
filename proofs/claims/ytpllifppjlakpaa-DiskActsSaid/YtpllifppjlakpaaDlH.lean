/-
  disk: the law's act: Flush, Arm, Restart.
-/
import Derived.Test.YtpllifppjlakpaaDlG
namespace Go.Proofs.Ytpllifppjlakpaa.Dk
open Go.RowKit Go.Shelf Go.Proofs.Ytpllifppjlakpaa
attribute [local go_sem] Oper.semAt_some
set_option linter.unusedVariables false
set_option linter.unusedSimpArgs false
theorem ne_b {a b : Int} (h : a ≠ b) : (a == b) = false := beq_eq_false_iff_ne.2 h
set_option maxHeartbeats 2000000 in
theorem lact_1 {W0 W : World} {d r : Nat} {s : Dk} {a : ActV} (h : Both W0 W d r s) (hh : Holds s) (hdo : a.do_ = 1) :
    Calls Try.prog 20 #[.pointer (some ⟨d, 0, none⟩), .pointer (some ⟨r, 0, none⟩), .agg a.cells.toArray] W fun e W' => e = .returned (.bool true) ∧ Both W0 W' d r (flushTot s).2 := by
  have hb5 := heap_alloc_last W (.cells a.cells.toArray 32)
  obtain ⟨hB0, F, G, x, y, hfg, bF, bG⟩ := h
  have hBA : Below W.heap.size W (W.alloc (.cells a.cells.toArray 32)) := (Below.refl _ _).alloc (Nat.le_refl _) _
  have x := x.below hBA
  have y := y.below hBA
  have hB := hB0.trans (hBA.mono hB0.size)
  have hd0 : (a.do_ == 0) = false := ne_b (by omega)
  have hd1 : (a.do_ == 1) = true := beq_iff_eq.2 hdo
  clear hdo hB0 hBA
  obtain ⟨x0, -⟩ := act_in hb5
  go_enter Try.func20, Try.ntmps20
  go_wp2_with fail
  generalize W.alloc (.cells a.cells.toArray 32) = W1 at x y hB hb5 x0 ⊢
  refine (flush_all x).mono ?_
  rintro e W2 ⟨rfl, k1, x2⟩
  have y2 := y.apart k1 (fun b h h' => hfg b h' h)
  go_wp2_with fail
  refine (rflush_all y2 hh).mono ?_
  rintro e W3 ⟨rfl, k2, y3⟩
  have fin := both_step hB hfg bF bG y.2.1 k1 (Grows.refl _ _) x2 k2 (Grows.refl _ _) y3
  clear x x2 y y2 y3 k1 k2 hB hb5 x0
  go_wp2_with fail
  go_ret
  exact ⟨rfl, fin⟩
set_option maxHeartbeats 2000000 in
theorem lact_2 {W0 W : World} {d r : Nat} {s : Dk} {a : ActV} (h : Both W0 W d r s) (ha : ActOk W0 a) (hdo : a.do_ = 2) :
    Calls Try.prog 20 #[.pointer (some ⟨d, 0, none⟩), .pointer (some ⟨r, 0, none⟩), .agg a.cells.toArray] W fun e W' => e = .returned (.bool true) ∧ Both W0 W' d r (armDk s a.n) := by
  have hb5 := heap_alloc_last W (.cells a.cells.toArray 32)
  obtain ⟨hB0, F, G, x, y, hfg, bF, bG⟩ := h
  have hnF : ¬ F W.heap.size := fun h => absurd (x.2.1 _ h) (by omega)
  have hBA : Below W.heap.size W (W.alloc (.cells a.cells.toArray 32)) := (Below.refl _ _).alloc (Nat.le_refl _) _
  have x := x.below hBA
  have y := y.below hBA
  have hB := hB0.trans (hBA.mono hB0.size)
  have hd0 : (a.do_ == 0) = false := ne_b (by omega)
  have hd1 : (a.do_ == 1) = false := ne_b (by omega)
  have hd2 : (a.do_ == 2) = true := beq_iff_eq.2 hdo
  have han := ha.n
  clear hdo hB0 hBA
  obtain ⟨x0, x1, -⟩ := act_in hb5
  go_enter Try.func20, Try.ntmps20
  go_wp2_with fail
  generalize W.alloc (.cells a.cells.toArray 32) = W1 at x y hB hb5 x0 x1 ⊢
  generalize W.heap.size = B5 at hnF hb5 x0 x1 ⊢
  refine (arm_any x a.n han.2).mono ?_
  rintro e W2 ⟨rfl, x2, k1⟩
  have y2 := y.apart k1 (fun b h h' => hfg b h' h)
  obtain ⟨-, x1, -⟩ := act_in (k1.block' hb5 hnF)
  go_wp2_with fail
  refine (rarm_any y2 a.n han.2).mono ?_
  rintro e W3 ⟨rfl, y3, k2⟩
  have fin := both_step hB hfg bF bG y.2.1 k1 (Grows.refl _ _) x2 k2 (Grows.refl _ _) y3
  clear x x2 y y2 y3 k1 k2 hB hb5 x0 x1
  go_wp2_with fail
  go_ret
  exact ⟨rfl, fin⟩
set_option maxHeartbeats 2000000 in
theorem lact_3 {W0 W : World} {d r : Nat} {s : Dk} {a : ActV} (h : Both W0 W d r s) (ha : ActOk W0 a) (hdo : a.do_ = 3) :
    Calls Try.prog 20 #[.pointer (some ⟨d, 0, none⟩), .pointer (some ⟨r, 0, none⟩), .agg a.cells.toArray] W fun e W' => e = .returned (.bool true) ∧ Both W0 W' d r (restDk s a.f) := by
  have hb5 := heap_alloc_last W (.cells a.cells.toArray 32)
  obtain ⟨hB0, F, G, x, y, hfg, bF, bG⟩ := h
  have hnF : ¬ F W.heap.size := fun h => absurd (x.2.1 _ h) (by omega)
  have hBA : Below W.heap.size W (W.alloc (.cells a.cells.toArray 32)) := (Below.refl _ _).alloc (Nat.le_refl _) _
  have x := x.below hBA
  have y := y.below hBA
  have hB := hB0.trans (hBA.mono hB0.size)
  have hd0 : (a.do_ == 0) = false := ne_b (by omega)
  have hd1 : (a.do_ == 1) = false := ne_b (by omega)
  have hd2 : (a.do_ == 2) = false := ne_b (by omega)
  have hd3 : (a.do_ == 3) = true := beq_iff_eq.2 hdo
  have hst := ha.stay
  clear hdo hB0 hBA ha
  obtain ⟨x0, -, -, z3, z4, z5, z6⟩ := act_in hb5
  go_enter Try.func20, Try.ntmps20
  go_wp2_with fail
  generalize W.alloc (.cells a.cells.toArray 32) = W1 at x y hB hb5 x0 z3 z4 z5 z6 ⊢
  generalize W.heap.size = B5 at hnF hb5 x0 z3 z4 z5 z6 ⊢
  refine (restart_any x a.f hst).mono ?_
  rintro e W2 ⟨rfl, k1, x2⟩
  have y2 := y.apart k1 (fun b h h' => hfg b h' h)
  obtain ⟨-, -, -, z3, z4, z5, z6⟩ := act_in (k1.block' hb5 hnF)
  go_wp2_with fail
  refine (rrestart_any y2 a.f hst).mono ?_
  rintro e W3 ⟨rfl, k2, G', g2, y3⟩
  have fin := both_step hB hfg bF bG y.2.1 k1 (Grows.refl _ _) x2 k2 g2 y3
  clear x x2 y y2 y3 k1 k2 hB hb5 x0 z3 z4 z5 z6
  go_wp2_with fail
  go_ret
  exact ⟨rfl, fin⟩
end Go.Proofs.Ytpllifppjlakpaa.Dk
