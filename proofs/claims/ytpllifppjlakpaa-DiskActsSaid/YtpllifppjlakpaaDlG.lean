/-
  disk: the law's act: Write and Flush.
-/
import Derived.Test.YtpllifppjlakpaaDlF
namespace Go.Proofs.Ytpllifppjlakpaa.Dk
open Go.RowKit Go.Shelf Go.Proofs.Ytpllifppjlakpaa
attribute [local go_sem] Oper.semAt_some
set_option linter.unusedVariables false
set_option linter.unusedSimpArgs false
theorem act_far {W0 : World} {a : ActV} (ha : ActOk W0 a) (F : Nat → Prop) (hF : ∀ b, F b → W0.heap.size ≤ b) : a.m = 64 → ∀ b off, a.A = some ⟨b, off, none⟩ → ¬ F b := fun hm64 b off e hf => by
  obtain ⟨b', off', e', hlt', -⟩ := ha.bytes.2.2 (by omega)
  rw [e] at e'
  injection e' with e'
  injection e' with e' _ _
  have := hF b hf
  omega
set_option maxHeartbeats 2000000 in
theorem lact_0 {W0 W : World} {d r : Nat} {s : Dk} {a : ActV} (h : Both W0 W d r s) (hQ : s.Q.length < 1954687338211) (ha : ActOk W0 a) (hdo : a.do_ = 0) :
    Calls Try.prog 20 #[.pointer (some ⟨d, 0, none⟩), .pointer (some ⟨r, 0, none⟩), .agg a.cells.toArray] W fun e W' => e = .returned (.bool true) ∧ Both W0 W' d r (writeTot s a.n a.bs).2 := by
  have hb5 := heap_alloc_last W (.cells a.cells.toArray 32)
  obtain ⟨hB0, F, G, x, y, hfg, bF, bG⟩ := h
  have hnF : ¬ F W.heap.size := fun h => absurd (x.2.1 _ h) (by omega)
  have hnG : ¬ G W.heap.size := fun h => absurd (y.2.1 _ h) (by omega)
  have hBA : Below W.heap.size W (W.alloc (.cells a.cells.toArray 32)) := (Below.refl _ _).alloc (Nat.le_refl _) _
  have x := x.below hBA
  have y := y.below hBA
  have hB := hB0.trans (hBA.mono hB0.size)
  have hfar := act_far ha
  have hby := ha.bytes
  have han := ha.n
  have hdb : (a.do_ == 0) = true := beq_iff_eq.2 hdo
  clear hdo hB0 hBA
  obtain ⟨x0, -⟩ := act_in hb5
  go_enter Try.func20, Try.ntmps20
  go_wp2_with fail
  generalize W.alloc (.cells a.cells.toArray 32) = W1 at x y hB hb5 x0 ⊢
  generalize W.heap.size = B5 at hnF hnG hb5 x0 ⊢
  have x1 : DiskAt F W1.drew d s := x.drew
  have y1 : RefAt G W1.drew r s := y.below (Below.refl _ _).drew
  have hBd := hB.drew
  refine wp_region_held (S := fun w => w.heap[B5]? = some (.cells a.cells.toArray 32 (0, 0))) (by kernel_rfl) ?_
  change wpAnyH _ _ _ _ _ _ _ _ W1.drew
  have hS : W1.drew.heap[B5]? = some (.cells a.cells.toArray 32 (0, 0)) := hb5
  clear hb5 x y hB x0
  refine wpAnyH_take (i := 0) (v := ?_) rfl (by kernel_rfl) (by kernel_rfl) (by kernel_rfl) (fun _ _ _ h => h) (Or.inl ⟨by rfl, fun w hw => ?_⟩) hS ?_
  rotate_left 1
  · ((go_simp; try rfl))
  try simp only [Act.put, List.getElem_toArray, List.getElem_cons_zero, List.getElem_cons_succ, List.setIfInBounds_toArray, List.set_cons_succ, List.set_cons_zero]
  refine wpAnyH_take (i := 1) (v := ?_) rfl (by kernel_rfl) (by kernel_rfl) (by kernel_rfl) (fun _ _ _ h => h) (Or.inl ⟨by rfl, fun w hw => ?_⟩) hS ?_
  rotate_left 1
  · ((go_simp; try rfl))
  try simp only [Act.put, List.getElem_toArray, List.getElem_cons_zero, List.getElem_cons_succ, List.setIfInBounds_toArray, List.set_cons_succ, List.set_cons_zero]
  refine wpAnyH_take (i := 2) (v := ?_) rfl (by kernel_rfl) (by kernel_rfl) (by kernel_rfl) (fun _ _ _ h => h) (Or.inl ⟨by rfl, fun w hw => ?_⟩) hS ?_
  rotate_left 1
  · ((have e := (act_in hw).2.1; go_simp; try rfl))
  try simp only [Act.put, List.getElem_toArray, List.getElem_cons_zero, List.getElem_cons_succ, List.setIfInBounds_toArray, List.set_cons_succ, List.set_cons_zero]
  refine wpAnyH_take (i := 3) (v := ?_) rfl (by kernel_rfl) (by kernel_rfl) (by kernel_rfl) (fun _ _ _ h => h) (Or.inl ⟨by rfl, fun w hw => ?_⟩) hS ?_
  rotate_left 1
  · ((go_simp; try rfl))
  try simp only [Act.put, List.getElem_toArray, List.getElem_cons_zero, List.getElem_cons_succ, List.setIfInBounds_toArray, List.set_cons_succ, List.set_cons_zero]
  refine wpAnyH_take (i := 4) (v := ?_) rfl (by kernel_rfl) (by kernel_rfl) (by kernel_rfl) (fun _ _ _ h => h) (Or.inl ⟨by rfl, fun w hw => ?_⟩) hS ?_
  rotate_left 1
  · ((have e := (act_in hw).2.2.1; go_simp; try rfl))
  try simp only [Act.put, List.getElem_toArray, List.getElem_cons_zero, List.getElem_cons_succ, List.setIfInBounds_toArray, List.set_cons_succ, List.set_cons_zero]
  refine wpAnyH_take (i := 6) (v := ?_) rfl (by kernel_rfl) (by kernel_rfl) (by kernel_rfl) (fun _ _ _ h => h) (Or.inl ⟨by rfl, fun w hw => ?_⟩) hS ?_
  rotate_left 1
  · ((go_simp; try rfl))
  try simp only [Act.put, List.getElem_toArray, List.getElem_cons_zero, List.getElem_cons_succ, List.setIfInBounds_toArray, List.set_cons_succ, List.set_cons_zero]
  refine wpAnyH_take (i := 7) (v := ?_) rfl (by kernel_rfl) (by kernel_rfl) (by kernel_rfl) (fun _ _ _ h => h) (Or.inl ⟨by rfl, fun w hw => ?_⟩) hS ?_
  rotate_left 1
  · ((go_simp; try rfl))
  try simp only [Act.put, List.getElem_toArray, List.getElem_cons_zero, List.getElem_cons_succ, List.setIfInBounds_toArray, List.set_cons_succ, List.set_cons_zero]
  refine wpAnyH_take (i := 8) (v := ?_) rfl (by kernel_rfl) (by kernel_rfl) (by kernel_rfl) (fun _ _ _ h => h) (Or.inl ⟨by rfl, fun w hw => ?_⟩) hS ?_
  rotate_left 1
  · ((have e := (act_in hw).2.1; go_simp; try rfl))
  try simp only [Act.put, List.getElem_toArray, List.getElem_cons_zero, List.getElem_cons_succ, List.setIfInBounds_toArray, List.set_cons_succ, List.set_cons_zero]
  refine wpAnyH_take (i := 9) (v := ?_) rfl (by kernel_rfl) (by kernel_rfl) (by kernel_rfl) (fun _ _ _ h => h) (Or.inl ⟨by rfl, fun w hw => ?_⟩) hS ?_
  rotate_left 1
  · ((go_simp; try rfl))
  try simp only [Act.put, List.getElem_toArray, List.getElem_cons_zero, List.getElem_cons_succ, List.setIfInBounds_toArray, List.set_cons_succ, List.set_cons_zero]
  refine wpAnyH_take (i := 10) (v := ?_) rfl (by kernel_rfl) (by kernel_rfl) (by kernel_rfl) (fun _ _ _ h => h) (Or.inl ⟨by rfl, fun w hw => ?_⟩) hS ?_
  rotate_left 1
  · ((have e := (act_in hw).2.2.1; go_simp; try rfl))
  try simp only [Act.put, List.getElem_toArray, List.getElem_cons_zero, List.getElem_cons_succ, List.setIfInBounds_toArray, List.set_cons_succ, List.set_cons_zero]
  refine wpAnyH_ready (rs := [5]) (by kernel_rfl) (by simp) ?_
  refine AllReadyH.cons rfl (fun K hK => ?_) AllReadyH.nil
  go_simp
  refine (write_all x1 hQ a.n han a.A a.m a.c a.bs ((hby.below hBd).more hBd.size) (hfar F bF)).mono ?_
  rintro e W2 ⟨rfl, k1, F', g1, x2⟩
  dsimp only
  have y2 := y1.apart k1 (fun b h h' => hfg b h' h)
  have hS2 := (k1.block' hS hnF)
  have hBd2 := hBd.trans (k1.below bF hBd.size)
  refine hK.out _ _ hS2 (fun _ => ?_)
  clear hK K hS
  have hS := hS2
  clear hS2
  try simp only [Act.put, List.getElem_toArray, List.getElem_cons_zero, List.getElem_cons_succ, List.setIfInBounds_toArray, List.set_cons_succ, List.set_cons_zero]
  refine wpAnyH_ready (rs := [11]) (by kernel_rfl) (by simp) ?_
  refine AllReadyH.cons rfl (fun K hK => ?_) AllReadyH.nil
  go_simp
  refine (rwrite_all y2 hQ a.n a.A a.m a.c a.bs ((hby.below hBd2).more hBd2.size) (hfar G bG)).mono ?_
  rintro e W3 ⟨rfl, k2, G', g2, y3⟩
  dsimp only
  have fin := both_step hBd hfg bF bG y1.2.1 k1 g1 x2 k2 g2 y3
  have hS2 := (k2.block' hS hnG)
  refine hK.out _ _ hS2 (fun _ => ?_)
  clear hK K hS
  have hS := hS2
  clear hS2
  try simp only [Act.put, List.getElem_toArray, List.getElem_cons_zero, List.getElem_cons_succ, List.setIfInBounds_toArray, List.set_cons_succ, List.set_cons_zero]
  refine wpAnyH_take (i := 12) (v := ?_) rfl (by kernel_rfl) (by kernel_rfl) (by kernel_rfl) (fun _ _ _ h => h) (Or.inl ⟨by rfl, fun w hw => ?_⟩) hS ?_
  rotate_left 1
  · ((go_simp; try rfl))
  try simp only [Act.put, List.getElem_toArray, List.getElem_cons_zero, List.getElem_cons_succ, List.setIfInBounds_toArray, List.set_cons_succ, List.set_cons_zero]
  refine wpAnyH_take (i := 13) (v := ?_) rfl (by kernel_rfl) (by kernel_rfl) (by kernel_rfl) (fun _ _ _ h => h) (Or.inl ⟨by rfl, fun w hw => ?_⟩) hS ?_
  rotate_left 1
  · ((go_simp; try rfl))
  try simp only [Act.put, List.getElem_toArray, List.getElem_cons_zero, List.getElem_cons_succ, List.setIfInBounds_toArray, List.set_cons_succ, List.set_cons_zero]
  refine wpAnyH_done (by kernel_rfl) ?_ _
  clear x1 x2 y1 y2 y3 k1 k2 g1 g2 hBd hBd2 hfar
  go_wp2_with fail
  go_ret
  exact ⟨rfl, fin⟩
end Go.Proofs.Ytpllifppjlakpaa.Dk
