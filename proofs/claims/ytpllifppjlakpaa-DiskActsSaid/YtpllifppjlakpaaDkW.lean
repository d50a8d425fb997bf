/-
  disk: the reference's Write, all answers; its Flush.
-/
import Derived.Test.YtpllifppjlakpaaDkV
namespace Go.Proofs.Ytpllifppjlakpaa.Dk
open Go.RowKit Go.Shelf Go.Proofs.Ytpllifppjlakpaa
attribute [local go_sem] Oper.semAt_some
set_option linter.unusedVariables false
set_option linter.unusedSimpArgs false
set_option maxHeartbeats 1000000 in
theorem rwrite_all {G : Nat → Prop} {W : World} {d : Nat} {s : Dk} (h : RefAt G W d s) (hQ : s.Q.length < 1954687338211) (n : Int) (A : Option Addr) (m c : Nat) (bs : List Int) (hb : BytesAt W W.heap.size A m bs) (hnA : m = 64 → ∀ b off, A = some ⟨b, off, none⟩ → ¬ G b) :
    Calls Try.prog 32 #[.pointer (some ⟨d, 0, none⟩), .int .i64 n, .slice A m c] W fun e W' => e = .returned (.int .i64 (writeTot s n bs).1) ∧ Keeps G W W' ∧ ∃ G', Grows G G' W.heap.size ∧ RefAt G' W' d (writeTot s n bs).2 := by
  have hm := hb.1
  obtain ⟨-, -, -, vS0, vW0, hs0, ws0, hd0, -⟩ := id h
  obtain ⟨-, -, -, c3, -⟩ := five hd0
  by_cases hoff : s.off = true
  · have e : writeTot s n bs = (20, s) := by unfold writeTot; rw [if_pos hoff]
    rw [e]
    rw [hoff] at c3
    clear hd0
    go_enter Try.func32, Try.ntmps32
    go_wp2_with fail
    go_ret
    exact ⟨rfl, Keeps.refl _ _, G, Grows.refl _ _, h⟩
  · have hof : s.off = false := by cases ho : s.off <;> simp_all
    by_cases hr : n < 0 ∨ (s.n : Int) ≤ n ∨ bs.length ≠ 64
    · have e : writeTot s n bs = (1, s) := by unfold writeTot; rw [if_neg hoff, if_pos hr]
      rw [e]
      rw [hm] at hr
      rw [hof] at c3
      have hhas := has_any h n
      have fin : Keeps G W W ∧ ∃ G', Grows G G' W.heap.size ∧ RefAt G' W d s := ⟨Keeps.refl _ _, G, Grows.refl _ _, h⟩
      by_cases hin : 0 ≤ n ∧ n < (s.n : Int)
      · have hm64 : m ≠ 64 := by omega
        rw [decide_eq_true hin] at hhas
        have h3' : ((m : Int) == 64) = false := beq_eq_false_iff_ne.2 (by omega)
        have h3'' : ((m : Int) != 64) = true := bne_iff_ne.2 (by omega)
        clear hr hd0 e hm h hb
        go_enter Try.func32, Try.ntmps32
        go_wp2_with fail
        refine hhas.mono ?_
        rintro e W' ⟨rfl, rfl⟩
        go_wp2_with fail
        go_ret
        exact ⟨rfl, fin⟩
      · rw [decide_eq_false hin] at hhas
        clear hr hd0 e hm h hb
        go_enter Try.func32, Try.ntmps32
        go_wp2_with fail
        refine hhas.mono ?_
        rintro e W' ⟨rfl, rfl⟩
        go_wp2_with fail
        go_ret
        exact ⟨rfl, fin⟩
    · have hr' := hr
      simp only [not_or, Int.not_lt, Int.not_le, ne_eq, Decidable.not_not] at hr'
      obtain ⟨h1, h2, h3⟩ := hr'
      obtain ⟨k, rfl⟩ := Int.eq_ofNat_of_zero_le h1
      have hk : k < s.n := by omega
      rw [hm] at h3
      subst h3
      by_cases harm : s.armed = 0
      · have e : writeTot s (k : Int) bs = (20, actDk s) := by unfold writeTot; rw [if_neg hoff, if_neg hr, if_pos harm]
        rw [e]
        rw [hof] at c3
        have hhas := has_any h (k : Int)
        rw [decide_eq_true ⟨by omega, by omega⟩] at hhas
        have hact := ract_any h
        rw [if_pos harm] at hact
        clear hr hd0 e hm hb harm
        go_enter Try.func32, Try.ntmps32
        go_wp2_with fail
        refine hhas.mono ?_
        rintro e W' ⟨rfl, rfl⟩
        go_wp2_with fail
        refine hact.mono ?_
        rintro e W' ⟨rfl, hD, hK⟩
        go_wp2_with fail
        go_ret
        exact ⟨rfl, hK, G, Grows.refl _ _, hD⟩
      · have e : writeTot s (k : Int) bs = (0, writeDk s k bs) := by unfold writeTot; rw [if_neg hoff, if_neg hr, if_neg harm, Int.toNat_natCast]
        rw [e]
        exact rwrite_any h hof harm hQ k hk A c bs hb (hnA rfl)
/-- One cell of a row of the call's own. -/
theorem row_set {W : World} {b0 e : Nat} {v : Value} {n : Nat} {xs : List Value} (h : W.ownsRow b0 e 1 v n xs) {g : Nat} (hv : v.ownBlock = some g) {j : Nat} (hj : j < n) (x : Value) :
    (W.setCell ⟨g, j, none⟩ x).ownsRow b0 e 1 v n (xs.set j x) ∧ (∃ u, W.cell? ⟨g, j, none⟩ = some u) ∧ W.frozen? ⟨g, j, none⟩ = false := by
  obtain ⟨hl, hh⟩ := h
  rcases hh with ⟨rfl, _⟩ | ⟨g', cap, cur, rfl, hg, hb, hnc, hcm, hcs, htake⟩
  · simp [Value.ownBlock] at hv
  · have : g' = g := by simpa [Value.ownBlock] using hv
    subst this
    rw [Nat.mul_one] at htake hcs
    have hjc : j < cur.size := by omega
    refine ⟨⟨by rw [List.length_set]; exact hl, .inr ⟨g', cap, cur.setIfInBounds j x, rfl, hg, heap_setCell_same W g' j _ e x hb, hnc, hcm, by rw [Array.size_setIfInBounds, Nat.mul_one]; exact hcs, ?_⟩⟩, ⟨cur[j], by rw [cell_of_row W g' j _ _ _ hb]; exact Array.getElem?_eq_getElem hjc⟩, frozen_blk hb j⟩
    rw [Nat.mul_one, ← htake, Array.toList_setIfInBounds, List.take_set]
/-- The sectors' row while sectors are laid into it. -/
structure RowSt (G : Nat → Prop) (w : World) (n : Nat) (vS : Value) (f : Nat → List Int) : Prop where
  ex : ∃ hs : List (Nat × Nat), hs.length = n ∧ w.ownsRow 0 22 1 vS n (hs.map hval) ∧ ∀ j (hj : j < hs.length), Sec5 w hs[j] (f j) ∧ G hs[j].1
theorem RowSt.set {G : Nat → Prop} {w : World} {n : Nat} {vS : Value} {f f' : Nat → List Int} (h : RowSt G w n vS f) {g : Nat} (hg : vS.ownBlock = some g) {k : Nat} (hk : k < n) {hh : Nat × Nat} {x : List Int} (hx : Sec5 w hh x) (hG : G hh.1) (hf : ∀ j, j < n → f' j = if j = k then x else f j) :
    RowSt G (w.setCell ⟨g, k, none⟩ (hval hh)) n vS f' := by
  obtain ⟨hs, hl, hr, hsx⟩ := h
  obtain ⟨r1, -, -⟩ := row_set hr hg hk (hval hh)
  have hne : ∀ h x, Sec5 w h x → h.1 ≠ g := fun h x hx => by
    obtain ⟨cl, hc⟩ := ownsRow_type hr hg
    exact hx.ne hc (by decide)
  have hst : ∀ h x, Sec5 w h x → Sec5 (w.setCell ⟨g, k, none⟩ (hval hh)) h x := fun h x hx => hx.keep (heap_set2 _ _ _ _ _ (hne h x hx))
  refine ⟨hs.set k hh, by rw [List.length_set]; exact hl, by rw [List.map_set]; exact r1, fun j hj => ?_⟩
  rw [List.length_set] at hj
  rw [List.getElem_set, hf j (by omega)]
  by_cases hjk : k = j
  · subst hjk
    rw [if_pos rfl, if_pos rfl]
    exact ⟨hst _ _ hx, hG⟩
  · rw [if_neg hjk, if_neg (fun e => hjk e.symm)]
    exact ⟨hst _ _ (hsx j hj).1, (hsx j hj).2⟩
theorem RowSt.keep {G : Nat → Prop} {w w' : World} {n : Nat} {vS : Value} {f : Nat → List Int} (h : RowSt G w n vS f) (hb : Below w.heap.size w w') : RowSt G w' n vS f := by
  obtain ⟨hs, hl, hr, hsx⟩ := h
  exact ⟨hs, hl, ownsRow_same hr (fun k hk hl => hb.block k hl), fun j hj => ⟨(hsx j hj).1.keep (hb.block _ (hsx j hj).1.lt), (hsx j hj).2⟩⟩
end Go.Proofs.Ytpllifppjlakpaa.Dk
