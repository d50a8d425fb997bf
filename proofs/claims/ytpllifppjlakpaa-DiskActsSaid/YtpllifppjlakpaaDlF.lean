/-
  disk: the law's act: the same on both.
-/
import Derived.Test.YtpllifppjlakpaaDlE
namespace Go.Proofs.Ytpllifppjlakpaa.Dk
open Go.RowKit Go.Shelf Go.Proofs.Ytpllifppjlakpaa
attribute [local go_sem] Oper.semAt_some
set_option linter.unusedVariables false
set_option linter.unusedSimpArgs false
/-- What an Act makes of a disk. -/
def stepDk (s : Dk) (a : ActV) : Dk :=
  if a.do_ = 0 then (writeTot s a.n a.bs).2 else if a.do_ = 1 then (flushTot s).2 else if a.do_ = 2 then armDk s a.n else if a.do_ = 3 then restDk s a.f else s
theorem writeTot_keeps {s : Dk} (hok : DkOk s) (h : Holds s) (n : Int) (bs : List Int) (hb : isBytes bs) : Holds (writeTot s n bs).2 ∧ (writeTot s n bs).2.Q.length ≤ s.Q.length + 1 := by
  unfold writeTot
  split
  · exact ⟨h, Nat.le_succ _⟩
  · split
    · exact ⟨h, Nat.le_succ _⟩
    · rename_i hr
      simp only [not_or, Int.not_lt, Int.not_le, ne_eq, Decidable.not_not] at hr
      obtain ⟨h1, h2, h3⟩ := hr
      obtain ⟨k, rfl⟩ := Int.eq_ofNat_of_zero_le h1
      split
      · exact ⟨act_holds h, by show (actDk s).Q.length ≤ _; rw [actDk_Q]; exact Nat.le_succ _⟩
      · refine ⟨write_holds hok h (by rw [Int.toNat_natCast]; omega) ⟨h3, hb⟩, ?_⟩
        show (s.Q ++ [_]).length ≤ _
        rw [List.length_append]
        exact Nat.le_refl _
theorem step_keeps {s : Dk} (hok : DkOk s) (h : Holds s) (a : ActV) (hb : isBytes a.bs) : Holds (stepDk s a) ∧ (stepDk s a).Q.length ≤ s.Q.length + 1 := by
  unfold stepDk
  split
  · exact writeTot_keeps hok h a.n a.bs hb
  · split
    · unfold flushTot
      split
      · exact ⟨h, Nat.le_succ _⟩
      · split
        · exact ⟨act_holds h, by show (actDk s).Q.length ≤ _; rw [actDk_Q]; exact Nat.le_succ _⟩
        · exact ⟨new_holds rfl rfl, Nat.zero_le _⟩
    · split
      · exact ⟨h, Nat.le_succ _⟩
      · split
        · exact ⟨new_holds rfl rfl, Nat.zero_le _⟩
        · exact ⟨h, Nat.le_succ _⟩
theorem rflush_all {G : Nat → Prop} {W : World} {d : Nat} {s : Dk} (h : RefAt G W d s) (hh : Holds s) :
    Calls Try.prog 33 #[.pointer (some ⟨d, 0, none⟩)] W fun e W' => e = .returned (.int .i64 (flushTot s).1) ∧ Keeps G W W' ∧ RefAt G W' d (flushTot s).2 := by
  obtain ⟨-, -, -, vS0, vW0, hs0, ws0, hd0, -⟩ := id h
  obtain ⟨-, -, -, c3, -⟩ := five hd0
  by_cases hoff : s.off = true
  · have e : flushTot s = (20, s) := by unfold flushTot; rw [if_pos hoff]
    rw [e]
    rw [hoff] at c3
    clear hd0
    go_enter Try.func33, Try.ntmps33
    go_wp2_with fail
    go_ret
    exact ⟨rfl, Keeps.refl _ _, h⟩
  · have hof : s.off = false := by cases ho : s.off <;> simp_all
    by_cases harm : s.armed = 0
    · have e : flushTot s = (20, actDk s) := by unfold flushTot; rw [if_neg hoff, if_pos harm]
      rw [e]
      rw [hof] at c3
      have hact := ract_any h
      rw [if_pos harm] at hact
      clear harm e hd0
      go_enter Try.func33, Try.ntmps33
      go_wp2_with fail
      refine hact.mono ?_
      rintro e W' ⟨rfl, hD, hK⟩
      go_wp2_with fail
      go_ret
      exact ⟨rfl, hK, hD⟩
    · have e : flushTot s = (0, flushDk s) := by unfold flushTot; rw [if_neg hoff, if_neg harm]
      rw [e]
      exact rflush_any h hh hof harm
/-- Both disks stand as s, apart, behind the base. -/
structure Both (W0 W : World) (d r : Nat) (s : Dk) : Prop where
  below : Below W0.heap.size W0 W
  ex : ∃ F G, DiskAt F W d s ∧ RefAt G W r s ∧ Apart F G ∧ (∀ b, F b → W0.heap.size ≤ b) ∧ (∀ b, G b → W0.heap.size ≤ b)
theorem Both.keep {W0 W W' : World} {d r : Nat} {s : Dk} (h : Both W0 W d r s) (hb : Below W.heap.size W W') : Both W0 W' d r s := by
  obtain ⟨h1, F, G, x, y, a, f, g⟩ := h
  exact ⟨h1.trans (hb.mono h1.size), F, G, x.below hb, y.below hb, a, f, g⟩
/-- The code's disk has turned, then the reference's. -/
theorem both_step {W0 W W1 W2 : World} {d r : Nat} {s' : Dk} {F G F' G' : Nat → Prop} (hB : Below W0.heap.size W0 W) (a : Apart F G) (f : ∀ b, F b → W0.heap.size ≤ b) (g : ∀ b, G b → W0.heap.size ≤ b) (hG : ∀ b, G b → b < W.heap.size)
    (k1 : Keeps F W W1) (g1 : Grows F F' W.heap.size) (x1 : DiskAt F' W1 d s') (k2 : Keeps G W1 W2) (g2 : Grows G G' W1.heap.size) (y2 : RefAt G' W2 r s') : Both W0 W2 d r s' := by
  have hB1 := hB.trans (k1.below f hB.size)
  have f' := grow_base g1 f hB.size
  have a1 : Apart F' G := a.grow g1 hG
  refine ⟨hB1.trans (k2.below g hB1.size), F', G', x1.apart k2 a1, y2, (a1.symm.grow g2 x1.2.1).symm, f', grow_base g2 g hB1.size⟩
end Go.Proofs.Ytpllifppjlakpaa.Dk
