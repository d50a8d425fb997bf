/-
  disk: the reference's Restart.
-/
import Derived.Test.YtpllifppjlakpaaDkX
namespace Go.Proofs.Ytpllifppjlakpaa.Dk
open Go.RowKit Go.Shelf Go.Proofs.Ytpllifppjlakpaa
attribute [local go_sem] Oper.semAt_some
set_option linter.unusedVariables false
set_option linter.unusedSimpArgs false
theorem restDk_ok {s : Dk} (h : DkOk s) (f : FateV) : DkOk (restDk s f) := by
  have := restTo_ok f h.len h.bytes h.queue s.Q.length (Nat.le_refl _)
  exact ⟨h.n, this.1, this.2, fun k x hx => (by cases hx), fun q hq => absurd hq List.not_mem_nil, Nat.zero_le _, ⟨show (-1 : Int) ≤ -1 by decide, show (-1 : Int) ≤ 9223372036854775807 by decide⟩, h.acts⟩
theorem rest_step (f : FateV) {s : Dk} (h : DkOk s) {i : Nat} (hi : i < s.Q.length) : ∀ j, j < s.n → secOf (restTo f s.Q s.L (i + 1)) j =
    if (i : Int) = f.torn then (if j = s.Q[i].1 then mixOf s.Q[i].2 (secOf (restTo f s.Q s.L i) s.Q[i].1) (cutOf f.cut 64) f.head else secOf (restTo f s.Q s.L i) j)
    else if stays f.stay i = true then (if j = s.Q[i].1 then s.Q[i].2 else secOf (restTo f s.Q s.L i) j) else secOf (restTo f s.Q s.L i) j := by
  intro j hj
  have hq := h.queue _ (List.getElem_mem hi)
  obtain ⟨h1, h2⟩ := restTo_ok f h.len h.bytes h.queue i (by omega)
  rw [restTo, List.getElem?_eq_getElem hi]
  show secOf (restStep f _ i s.Q[i]) j = _
  unfold restStep
  split
  · exact secOf_splice h1 (mixOf_sec hq.2 (secOf_bytes h2 _) f.cut f.head).1 hq.1 hj
  · split
    · exact secOf_splice h1 hq.2.1 hq.1 hj
    · rfl
theorem RowSt.weak {G G' : Nat → Prop} {w : World} {n : Nat} {vS : Value} {f f' : Nat → List Int} (h : RowSt G w n vS f) (hG : ∀ b, G b → G' b) (hf : ∀ j, j < n → f' j = f j) : RowSt G' w n vS f' := by
  obtain ⟨hs, hl, hr, hx⟩ := h
  exact ⟨hs, hl, hr, fun j hj => ⟨by rw [hf j (by omega)]; exact (hx j hj).1, hG _ (hx j hj).2⟩⟩
set_option maxHeartbeats 4000000 in
theorem rrestart_any {G : Nat → Prop} {W : World} {d : Nat} {s : Dk} (h : RefAt G W d s) (f : FateV) (hstay : 0 ≤ f.stay ∧ f.stay < 18446744073709551616) :
    Calls Try.prog 35 #[.pointer (some ⟨d, 0, none⟩), f.val] W fun e W' => e = .returned (.tuple #[]) ∧ Keeps G W W' ∧ ∃ G', Grows G G' W.heap.size ∧ RefAt G' W' d (restDk s f) := by
  have hfok := restDk_ok h.1 f
  obtain ⟨stay, torn, cut, head⟩ := f
  have hBB : Below W.heap.size W (W.alloc (.cells #[.int .u64 stay, .int .i64 torn, .int .i64 cut, .bool head] 30)) := (Below.refl _ _).alloc (Nat.le_refl _) _
  have hbf : (W.alloc (.cells #[.int .u64 stay, .int .i64 torn, .int .i64 cut, .bool head] 30)).heap[W.heap.size]? = some (.cells #[.int .u64 stay, .int .i64 torn, .int .i64 cut, .bool head] 30 (0, 0)) := heap_alloc_last W _
  have hR1 := h.below hBB
  have hK1 : Keeps G W (W.alloc (.cells #[.int .u64 stay, .int .i64 torn, .int .i64 cut, .bool head] 30)) := Keeps.of_below hBB
  have hGW := h.2.1
  obtain ⟨h0, h1, h2, vS, vW, hs, ws, hd, hi⟩ := id hR1
  obtain ⟨c0, c1, c2, c3, c4⟩ := five hd
  obtain ⟨AW, cW, rfl, hcW⟩ := slice_form hi.wrow
  have hroom := h0.room
  have hfS : vS.ownBlock ≠ some W.heap.size := fun e => by have := hGW _ (hi.gS _ e); omega
  have hsz1 := hBB.size
  clear h
  go_enter Try.func35, Try.ntmps35
  unfold FateV.val
  go_wp2_with fail
  generalize W.alloc (.cells #[.int .u64 stay, .int .i64 torn, .int .i64 cut, .bool head] 30) = W1 at *
  go_loopw [11] (fun v wr => ∃ i : Nat, i ≤ s.Q.length ∧ v = .int .i64 i ∧ RowSt (fun b => G b ∨ W.heap.size ≤ b) wr s.n vS (fun j => secOf (restTo ⟨stay, torn, cut, head⟩ s.Q s.L i) j) ∧ Keeps (fun b => vS.ownBlock = some b) W1 wr) (fun v _ => s.Q.length - (intOf v).toNat)
  case atStart => exact ⟨0, Nat.zero_le _, rfl, ⟨hs, hi.hlen, hi.row, fun j hj => ⟨(hi.secs j hj).1, .inl (hi.secs j hj).2⟩⟩, Keeps.refl _ _⟩
  case round =>
    obtain ⟨i, hile, rfl, hrow, hk⟩ := hrel
    have hdne : vS.ownBlock ≠ some d := fun e => by
      obtain ⟨cl, hh⟩ := ownsRow_type hi.row e
      exact absurd (blk_type hd hh) (by decide)
    have hd4 := (hk.block d (blk_lt hd) hdne).trans hd
    have hf4 := (hk.block _ (blk_lt hbf) hfS).trans hbf
    by_cases hlt : i < s.Q.length
    · have hq := h0.queue _ (List.getElem_mem hlt)
      obtain ⟨gW, cW', wb, wc, e, hcW', w1, w2, hsq, hGw⟩ := wait_at (d := d) hi hlt (fun b hb hn => hk.block b hb hn)
      injection e with e _ e3
      subst e
      subst e3
      obtain ⟨gS, cS, rfl, hcS, hbS, -⟩ := row_cell hi.row (by omega)
      have hstep := rest_step ⟨stay, torn, cut, head⟩ h0 hlt
      have hLb := (restTo_ok ⟨stay, torn, cut, head⟩ h0.len h0.bytes h0.queue i (by omega))
      generalize s.Q[i] = q at hq w1 hsq hstep
      obtain ⟨qn, qx⟩ := q
      have hqn : qn < s.n := hq.1
      have hsecO : isSec (secOf (restTo ⟨stay, torn, cut, head⟩ s.Q s.L i) qn) := ⟨secOf_length hLb.1 hqn, secOf_bytes hLb.2 _⟩
      have hB7 : Below wr.heap.size wr (wr.alloc (.cells #[.int .i64 (qn : Int), .slice (some ⟨wb, 0, none⟩) 64 wc] 81)) := (Below.refl _ _).alloc (Nat.le_refl _) _
      have hk7 : Keeps (fun b => (Value.slice (some ⟨gS, 0, none⟩) s.n cS).ownBlock = some b) W1 (wr.alloc (.cells #[.int .i64 (qn : Int), .slice (some ⟨wb, 0, none⟩) 64 wc] 81)) := hk.trans (Keeps.of_below (F := fun b => (Value.slice (some ⟨gS, 0, none⟩) s.n cS).ownBlock = some b) hB7) (fun b _ h => h)
      have hrow7 := hrow.keep hB7
      have hsq7 := hsq.keep (hB7.block _ hsq.lt)
      have hd7 := (hB7.block d (blk_lt hd4)).trans hd4
      have hf7 := (hB7.block _ (blk_lt hf4)).trans hf4
      have ht5 := heap_alloc_last wr (.cells #[.int .i64 (qn : Int), .slice (some ⟨wb, 0, none⟩) 64 wc] 81)
      have ht5l : wr.heap.size < (wr.alloc (.cells #[.int .i64 (qn : Int), .slice (some ⟨wb, 0, none⟩) 64 wc] 81)).heap.size := by simp
      have ht5W : W.heap.size ≤ wr.heap.size := Nat.le_trans hsz1 hk.size
      have g1 : (wr.alloc (.cells #[.int .i64 (qn : Int), .slice (some ⟨wb, 0, none⟩) 64 wc] 81)).cell? ⟨W.heap.size, 1, none⟩ = some (.int .i64 torn) := cell_of_row _ _ 1 _ _ _ hf7
      have g0 : (wr.alloc (.cells #[.int .i64 (qn : Int), .slice (some ⟨wb, 0, none⟩) 64 wc] 81)).cell? ⟨W.heap.size, 0, none⟩ = some (.int .u64 stay) := cell_of_row _ _ 0 _ _ _ hf7
      have hfin3 : ∀ w x, RowSt (fun b => G b ∨ W.heap.size ≤ b) w s.n x (fun j => secOf (restTo ⟨stay, torn, cut, head⟩ s.Q s.L (i + 1)) j) → True := fun _ _ _ => trivial
      have HW := Lib.hid hGW
      clear hi hd hd4 hf4 hR1 hrow h0 h1 c0 c1 c2 c3 c4 hfok hk hsq hbf hBB hGW hLb hfin3
      by_cases ht : (i : Int) = torn
      · subst ht
        have htb : ((i : Int) == (i : Int)) = true := beq_iff_eq.2 rfl
        have hstep := fun j hj => (hstep j hj).trans (if_pos rfl)
        obtain ⟨hsi, hli, hri, hxi⟩ := id hrow7
        have hql : qn < hsi.length := by omega
        obtain ⟨hxq, hGq⟩ := hxi qn hql
        have hrc : (wr.alloc (.cells #[.int .i64 (qn : Int), .slice (some ⟨wb, 0, none⟩) 64 wc] 81)).cell? ⟨gS, qn, none⟩ = some (hval hsi[qn]) := by
          obtain ⟨g', c', e, -, hb', hcell⟩ := row_cell hri (by omega)
          injection e with e _ _
          injection e with e
          injection e with e _ _
          subst e
          exact hcell qn _ (by rw [List.getElem?_map, List.getElem?_eq_getElem hql]; rfl)
        generalize hsi[qn] = ho at hxq hGq hrc
        obtain ⟨ob, oc⟩ := ho
        unfold hval at hrc
        have g2 : (wr.alloc (.cells #[.int .i64 (qn : Int), .slice (some ⟨wb, 0, none⟩) 64 wc] 81)).cell? ⟨W.heap.size, 2, none⟩ = some (.int .i64 cut) := cell_of_row _ _ 2 _ _ _ hf7
        have g3 : (wr.alloc (.cells #[.int .i64 (qn : Int), .slice (some ⟨wb, 0, none⟩) 64 wc] 81)).cell? ⟨W.heap.size, 3, none⟩ = some (.bool head) := cell_of_row _ _ 3 _ _ _ hf7
        have t50 : (wr.alloc (.cells #[.int .i64 (qn : Int), .slice (some ⟨wb, 0, none⟩) 64 wc] 81)).cell? ⟨wr.heap.size, 0, none⟩ = some (.int .i64 (qn : Int)) := cell_of_row _ _ 0 _ _ _ ht5
        have t51 : (wr.alloc (.cells #[.int .i64 (qn : Int), .slice (some ⟨wb, 0, none⟩) 64 wc] 81)).cell? ⟨wr.heap.size, 1, none⟩ = some (.slice (some ⟨wb, 0, none⟩) 64 wc) := cell_of_row _ _ 1 _ _ _ ht5
        have e0 := (five hd7).1
        have hnf : W.heap.size ≠ gS := fun e => hfS (by rw [hbS, e])
        have hnd : d ≠ gS := fun e => hdne (by rw [hbS, e])
        have hn5 : wr.heap.size ≠ gS := fun e => by
          obtain ⟨cl, hh⟩ := ownsRow_type hri hbS
          rw [← e] at hh
          exact absurd (blk_type ht5 hh) (by decide)
        have hdlt := blk_lt hd7
        have hflt := blk_lt hf7
        have hwb5 : wb ≠ gS := by
          obtain ⟨cl, hh⟩ := ownsRow_type hri hbS
          exact hsq7.ne hh (by decide)
        have hob5 : ob ≠ gS := by
          obtain ⟨cl, hh⟩ := ownsRow_type hri hbS
          exact hxq.ne hh (by decide)
        go_wp2_with fail
        generalize hw7 : wr.alloc (.cells #[.int .i64 (qn : Int), .slice (some ⟨wb, 0, none⟩) 64 wc] 81) = W7 at *
        generalize wr.heap.size = B5 at t50 t51 hn5 ht5l ⊢
        have hmx := rmix_any (some ⟨wb, 0, none⟩) (some ⟨ob, 0, none⟩) 64 64 wc oc qx (secOf (restTo ⟨stay, (i : Int), cut, head⟩ s.Q s.L i) qn) cut head W7.drew hsq7.bytes hxq.bytes hsq7.2.1.1 hsq7.2.1.2 (by decide) (by decide)
        have hck : ∀ w : World, (∀ b, b < W7.heap.size → b ≠ gS → w.heap[b]? = W7.heap[b]?) → ∀ p : Addr, p.block < W7.heap.size → p.block ≠ gS → w.cell? p = W7.cell? p := fun w hw p hp hn => World.cell?_of_block (hw p.block hp hn)
        refine wp_region_held (S := fun w => ∀ b, b < W7.heap.size → b ≠ gS → w.heap[b]? = W7.heap[b]?) (by kernel_rfl) ?_
        change wpAnyH _ _ _ _ _ _ _ _ W7.drew
        have hS : ∀ b, b < W7.heap.size → b ≠ gS → W7.drew.heap[b]? = W7.heap[b]? := fun b _ _ => rfl
        refine wpAnyH_take (i := 0) (v := ?_) rfl (by kernel_rfl) (by kernel_rfl) (by kernel_rfl) (fun _ _ _ h => h) (Or.inl ⟨by rfl, fun w hw => ?_⟩) hS ?_
        rotate_left 1
        · ((go_simp; try rfl))
        try simp only [Act.put, List.getElem_toArray, List.getElem_cons_zero, List.getElem_cons_succ, List.setIfInBounds_toArray, List.set_cons_succ, List.set_cons_zero]
        refine wpAnyH_take (i := 1) (v := ?_) rfl (by kernel_rfl) (by kernel_rfl) (by kernel_rfl) (fun _ _ _ h => h) (Or.inl ⟨by rfl, fun w hw => ?_⟩) hS ?_
        rotate_left 1
        · ((go_simp; try rfl))
        try simp only [Act.put, List.getElem_toArray, List.getElem_cons_zero, List.getElem_cons_succ, List.setIfInBounds_toArray, List.set_cons_succ, List.set_cons_zero]
        refine wpAnyH_take (i := 2) (v := ?_) rfl (by kernel_rfl) (by kernel_rfl) (by kernel_rfl) (fun _ _ _ h => h) (Or.inl ⟨by rfl, fun w hw => ?_⟩) hS ?_
        rotate_left 1
        · ((go_simp; try rfl))
        try simp only [Act.put, List.getElem_toArray, List.getElem_cons_zero, List.getElem_cons_succ, List.setIfInBounds_toArray, List.set_cons_succ, List.set_cons_zero]
        refine wpAnyH_take (i := 3) (v := ?_) rfl (by kernel_rfl) (by kernel_rfl) (by kernel_rfl) (fun _ _ _ h => h) (Or.inl ⟨by rfl, fun w hw => ?_⟩) hS ?_
        rotate_left 1
        · ((have e := (hck w hw ⟨d, 0, none⟩ hdlt hnd).trans e0; go_simp; try rfl))
        try simp only [Act.put, List.getElem_toArray, List.getElem_cons_zero, List.getElem_cons_succ, List.setIfInBounds_toArray, List.set_cons_succ, List.set_cons_zero]
        refine wpAnyH_take (i := 4) (v := ?_) rfl (by kernel_rfl) (by kernel_rfl) (by kernel_rfl) (fun _ _ _ h => h) (Or.inl ⟨by rfl, fun w hw => ?_⟩) hS ?_
        rotate_left 1
        · ((go_simp; try rfl))
        try simp only [Act.put, List.getElem_toArray, List.getElem_cons_zero, List.getElem_cons_succ, List.setIfInBounds_toArray, List.set_cons_succ, List.set_cons_zero]
        refine wpAnyH_take (i := 5) (v := ?_) rfl (by kernel_rfl) (by kernel_rfl) (by kernel_rfl) (fun _ _ _ h => h) (Or.inl ⟨by rfl, fun w hw => ?_⟩) hS ?_
        rotate_left 1
        · ((have e := (hck w hw ⟨B5, 0, none⟩ ht5l hn5).trans t50; go_simp; try rfl))
        try simp only [Act.put, List.getElem_toArray, List.getElem_cons_zero, List.getElem_cons_succ, List.setIfInBounds_toArray, List.set_cons_succ, List.set_cons_zero]
        refine wpAnyH_take (i := 6) (v := ?_) rfl (by kernel_rfl) (by kernel_rfl) (by kernel_rfl) (fun _ _ _ h => h) (Or.inl ⟨by rfl, fun w hw => ?_⟩) hS ?_
        rotate_left 1
        · ((go_simp; try rfl))
        try simp only [Act.put, List.getElem_toArray, List.getElem_cons_zero, List.getElem_cons_succ, List.setIfInBounds_toArray, List.set_cons_succ, List.set_cons_zero]
        refine wpAnyH_take (i := 7) (v := ?_) rfl (by kernel_rfl) (by kernel_rfl) (by kernel_rfl) (fun _ _ _ h => h) (Or.inl ⟨by rfl, fun w hw => ?_⟩) hS ?_
        rotate_left 1
        · ((have e := (hck w hw ⟨B5, 1, none⟩ ht5l hn5).trans t51; go_simp; try rfl))
        try simp only [Act.put, List.getElem_toArray, List.getElem_cons_zero, List.getElem_cons_succ, List.setIfInBounds_toArray, List.set_cons_succ, List.set_cons_zero]
        refine wpAnyH_take (i := 8) (v := ?_) rfl (by kernel_rfl) (by kernel_rfl) (by kernel_rfl) (fun _ _ _ h => h) (Or.inl ⟨by rfl, fun w hw => ?_⟩) hS ?_
        rotate_left 1
        · ((go_simp; try rfl))
        try simp only [Act.put, List.getElem_toArray, List.getElem_cons_zero, List.getElem_cons_succ, List.setIfInBounds_toArray, List.set_cons_succ, List.set_cons_zero]
        refine wpAnyH_take (i := 9) (v := ?_) rfl (by kernel_rfl) (by kernel_rfl) (by kernel_rfl) (fun _ _ _ h => h) (Or.inl ⟨by rfl, fun w hw => ?_⟩) hS ?_
        rotate_left 1
        · ((go_simp; try rfl))
        try simp only [Act.put, List.getElem_toArray, List.getElem_cons_zero, List.getElem_cons_succ, List.setIfInBounds_toArray, List.set_cons_succ, List.set_cons_zero]
        refine wpAnyH_take (i := 10) (v := ?_) rfl (by kernel_rfl) (by kernel_rfl) (by kernel_rfl) (fun _ _ _ h => h) (Or.inl ⟨by rfl, fun w hw => ?_⟩) hS ?_
        rotate_left 1
        · ((go_simp; try rfl))
        try simp only [Act.put, List.getElem_toArray, List.getElem_cons_zero, List.getElem_cons_succ, List.setIfInBounds_toArray, List.set_cons_succ, List.set_cons_zero]
        refine wpAnyH_take (i := 11) (v := ?_) rfl (by kernel_rfl) (by kernel_rfl) (by kernel_rfl) (fun _ _ _ h => h) (Or.inl ⟨by rfl, fun w hw => ?_⟩) hS ?_
        rotate_left 1
        · ((have e := (hck w hw ⟨d, 0, none⟩ hdlt hnd).trans e0; go_simp; try rfl))
        try simp only [Act.put, List.getElem_toArray, List.getElem_cons_zero, List.getElem_cons_succ, List.setIfInBounds_toArray, List.set_cons_succ, List.set_cons_zero]
        refine wpAnyH_take (i := 12) (v := ?_) rfl (by kernel_rfl) (by kernel_rfl) (by kernel_rfl) (fun _ _ _ h => h) (Or.inl ⟨by rfl, fun w hw => ?_⟩) hS ?_
        rotate_left 1
        · ((go_simp; try rfl))
        try simp only [Act.put, List.getElem_toArray, List.getElem_cons_zero, List.getElem_cons_succ, List.setIfInBounds_toArray, List.set_cons_succ, List.set_cons_zero]
        refine wpAnyH_take (i := 13) (v := ?_) rfl (by kernel_rfl) (by kernel_rfl) (by kernel_rfl) (fun _ _ _ h => h) (Or.inl ⟨by rfl, fun w hw => ?_⟩) hS ?_
        rotate_left 1
        · ((have e := (hck w hw ⟨B5, 0, none⟩ ht5l hn5).trans t50; go_simp; try rfl))
        try simp only [Act.put, List.getElem_toArray, List.getElem_cons_zero, List.getElem_cons_succ, List.setIfInBounds_toArray, List.set_cons_succ, List.set_cons_zero]
        refine wpAnyH_take (i := 14) (v := ?_) rfl (by kernel_rfl) (by kernel_rfl) (by kernel_rfl) (fun _ _ _ h => h) (Or.inl ⟨by rfl, fun w hw => ?_⟩) hS ?_
        rotate_left 1
        · ((go_simp; try rfl))
        try simp only [Act.put, List.getElem_toArray, List.getElem_cons_zero, List.getElem_cons_succ, List.setIfInBounds_toArray, List.set_cons_succ, List.set_cons_zero]
        refine wpAnyH_take (i := 16) (v := ?_) rfl (by kernel_rfl) (by kernel_rfl) (by kernel_rfl) (fun _ _ _ h => h) (Or.inl ⟨by rfl, fun w hw => ?_⟩) hS ?_
        rotate_left 1
        · ((go_simp; try rfl))
        try simp only [Act.put, List.getElem_toArray, List.getElem_cons_zero, List.getElem_cons_succ, List.setIfInBounds_toArray, List.set_cons_succ, List.set_cons_zero]
        refine wpAnyH_take (i := 17) (v := ?_) rfl (by kernel_rfl) (by kernel_rfl) (by kernel_rfl) (fun _ _ _ h => h) (Or.inl ⟨by rfl, fun w hw => ?_⟩) hS ?_
        rotate_left 1
        · ((have e := (hck w hw ⟨W.heap.size, 2, none⟩ hflt hnf).trans g2; go_simp; try rfl))
        try simp only [Act.put, List.getElem_toArray, List.getElem_cons_zero, List.getElem_cons_succ, List.setIfInBounds_toArray, List.set_cons_succ, List.set_cons_zero]
        refine wpAnyH_take (i := 18) (v := ?_) rfl (by kernel_rfl) (by kernel_rfl) (by kernel_rfl) (fun _ _ _ h => h) (Or.inl ⟨by rfl, fun w hw => ?_⟩) hS ?_
        rotate_left 1
        · ((go_simp; try rfl))
        try simp only [Act.put, List.getElem_toArray, List.getElem_cons_zero, List.getElem_cons_succ, List.setIfInBounds_toArray, List.set_cons_succ, List.set_cons_zero]
        refine wpAnyH_take (i := 19) (v := ?_) rfl (by kernel_rfl) (by kernel_rfl) (by kernel_rfl) (fun _ _ _ h => h) (Or.inl ⟨by rfl, fun w hw => ?_⟩) hS ?_
        rotate_left 1
        · ((have e := (hck w hw ⟨W.heap.size, 3, none⟩ hflt hnf).trans g3; go_simp; try rfl))
        try simp only [Act.put, List.getElem_toArray, List.getElem_cons_zero, List.getElem_cons_succ, List.setIfInBounds_toArray, List.set_cons_succ, List.set_cons_zero]
        clear hck
        have hrcd : W7.drew.cell? ⟨gS, qn, none⟩ = some (.slice (some ⟨ob, 0, none⟩) 64 oc) := hrc
        refine wpAnyH_ready (rs := [15]) (by kernel_rfl) (by simp) ?_
        refine AllReadyH.cons rfl (fun K hK => ?_) AllReadyH.nil
        go_simp
        refine hK.out _ _ (fun b _ _ => rfl) (fun hS => ?_)
        clear hK K
        try simp only [Act.put, List.getElem_toArray, List.getElem_cons_zero, List.getElem_cons_succ, List.setIfInBounds_toArray, List.set_cons_succ, List.set_cons_zero]
        refine wpAnyH_ready (rs := [20]) (by kernel_rfl) (by simp) ?_
        refine AllReadyH.cons rfl (fun K hK => ?_) AllReadyH.nil
        go_simp
        refine hmx.mono ?_
        rintro e W8 ⟨⟨A2, c2, rfl, hown⟩, hbel⟩
        dsimp only
        refine hK.out _ _ (fun b hb _ => hbel.block b hb) (fun hS => ?_)
        clear hK K hS
        try simp only [Act.put, List.getElem_toArray, List.getElem_cons_zero, List.getElem_cons_succ, List.setIfInBounds_toArray, List.set_cons_succ, List.set_cons_zero]
        have hS : ∀ b, b < W7.heap.size → b ≠ gS → W8.heap[b]? = W7.heap[b]? := fun b hb _ => hbel.block b hb
        refine wpAnyH_take (i := 21) (v := ?_) rfl (by kernel_rfl) (by kernel_rfl) (by kernel_rfl) (fun _ _ _ h => h) (Or.inl ⟨by rfl, fun w hw => ?_⟩) hS ?_
        rotate_left 1
        · ((go_simp; try rfl))
        try simp only [Act.put, List.getElem_toArray, List.getElem_cons_zero, List.getElem_cons_succ, List.setIfInBounds_toArray, List.set_cons_succ, List.set_cons_zero]
        have hms := mixOf_sec hq.2 hsecO.2 cut head
        obtain ⟨gm, rfl, hgm, hsm⟩ := sec5_own hown hms
        have hrow8 := hrow7.keep (w' := W8) (Below.refl _ _ |>.drew |>.trans hbel)
        obtain ⟨hs8, hl8, hr8, -⟩ := id hrow8
        obtain ⟨-, ⟨u, hu⟩, hfz⟩ := row_set hr8 hbS hqn (hval (gm, c2))
        have hfin := hrow8.set hbS hqn hsm (.inr (Nat.le_trans (by have := hbel.size; have := hk7.size; exact Nat.le_trans hsz1 hk7.size) hgm)) hstep
        have hkfin := (hk7.trans (Keeps.of_below (F := fun b => (Value.slice (some ⟨gS, 0, none⟩) s.n cS).ownBlock = some b) ((Below.refl _ _).drew.trans hbel)) (fun b _ h => h)).set hbS qn (hval (gm, c2))
        unfold hval at hfin hkfin
        clear hstep hmx hri hrow7 hrow8 hr8 hxi hsm hown hxq hsq7
        refine wpAnyH_ready (rs := [22]) (by kernel_rfl) (by simp) ?_
        refine AllReadyH.cons rfl (fun K hK => ?_) AllReadyH.nil
        go_simp
        refine hK.out _ _ (fun b hb hn => (heap_set2 _ _ _ _ _ hn).trans (hbel.block b hb)) (fun hS => ?_)
        clear hK K
        try simp only [Act.put, List.getElem_toArray, List.getElem_cons_zero, List.getElem_cons_succ, List.setIfInBounds_toArray, List.set_cons_succ, List.set_cons_zero]
        refine wpAnyH_done (by kernel_rfl) ?_ _
        go_wp2_with fail
        exact ⟨⟨i + 1, by omega, by go_num, hfin, hkfin⟩, by simp [intOf]; omega⟩
      · have htb : ((i : Int) == torn) = false := beq_eq_false_iff_ne.2 ht
        simp only [if_neg ht] at hstep
        have hss : ∃ b, stays stay i = b := ⟨_, rfl⟩
        obtain ⟨b, hb⟩ := hss
        rw [hb] at hstep
        unfold stays at hb
        by_cases h63 : (63 : Int) < (i : Int)
        · have hb2 := hb
          rw [if_pos h63] at hb2
          have hb3 : (bits BinOp.and .u64 (stay / 2 ^ 63) 1 == 1) = b := hb2
          have hb4 : (bits BinOp.and .u64 (stay / 9223372036854775808) 1 == 1) = b := hb2
          have h64 : ¬ (i : Int) ≤ 63 := by omega
          cases b
          · have HS := Lib.hid hstep
            clear hstep
            go_wp2_with fail
            exact ⟨⟨i + 1, by omega, by go_num, hrow7.weak (fun _ h => h) (fun j hj => by have := HS.out j hj; simpa using this), hk7⟩, by simp [intOf]; omega⟩
          · obtain ⟨hsi, hli, hri, -⟩ := id hrow7
            obtain ⟨-, ⟨u, hu⟩, hfz⟩ := row_set hri hbS hqn (hval (wb, wc))
            have hdr : ∀ w, Below (World.heap w).size w w.drew := fun w => (Below.refl _ _).drew
            have hfin := (hrow7.keep (hdr _)).set hbS hqn (hsq7.keep ((hdr _).block _ hsq7.lt)) (.inl hGw) (fun j hj => (hstep j hj).trans (if_pos rfl))
            have hkfin := (hk7.trans (Keeps.of_below (F := fun b => (Value.slice (some ⟨gS, 0, none⟩) s.n cS).ownBlock = some b) (hdr _)) (fun b _ h => h)).set hbS qn (hval (wb, wc))
            have e0 : (wr.alloc (.cells #[.int .i64 (qn : Int), .slice (some ⟨wb, 0, none⟩) 64 wc] 81)).drew.cell? ⟨d, 0, none⟩ = _ := (five hd7).1
            have t50 : (wr.alloc (.cells #[.int .i64 (qn : Int), .slice (some ⟨wb, 0, none⟩) 64 wc] 81)).drew.cell? ⟨wr.heap.size, 0, none⟩ = some (.int .i64 (qn : Int)) := cell_of_row _ _ 0 _ _ _ ht5
            have t51 : (wr.alloc (.cells #[.int .i64 (qn : Int), .slice (some ⟨wb, 0, none⟩) 64 wc] 81)).drew.cell? ⟨wr.heap.size, 1, none⟩ = some (.slice (some ⟨wb, 0, none⟩) 64 wc) := cell_of_row _ _ 1 _ _ _ ht5
            have hu : (wr.alloc (.cells #[.int .i64 (qn : Int), .slice (some ⟨wb, 0, none⟩) 64 wc] 81)).drew.cell? ⟨gS, qn, none⟩ = some u := hu
            have hfz : (wr.alloc (.cells #[.int .i64 (qn : Int), .slice (some ⟨wb, 0, none⟩) 64 wc] 81)).drew.frozen? ⟨gS, qn, none⟩ = false := hfz
            unfold hval at hfin hkfin
            clear hstep hd7 hf7 ht5 hrow7 hri hsq7 hB7 hk7 hli hq hsecO hdr
            go_wp2_with fail
            refine wp_region_still_tail 9 (by kernel_rfl) (by kernel_rfl) ?_
            simp only [List.take_succ_cons, List.take_zero, List.drop_succ_cons, List.drop_zero]
            change wpStill _ _ (wr.alloc (.cells #[.int .i64 (qn : Int), .slice (some ⟨wb, 0, none⟩) 64 wc] 81)).drew _ _ _
            generalize hw7 : (wr.alloc (.cells #[.int .i64 (qn : Int), .slice (some ⟨wb, 0, none⟩) 64 wc] 81)).drew = w7 at e0 hu hfz hfin hkfin t50 t51 ⊢
            still_step
            still_step
            still_step
            still_step
            still_step
            still_step
            still_step
            still_step
            still_step
            refine wpStill_nil ?_
            change wpList _ _ _ _ _ (wr.alloc (.cells #[.int .i64 (qn : Int), .slice (some ⟨wb, 0, none⟩) 64 wc] 81)).drew
            rw [hw7]
            clear hw7 t50 t51 e0
            go_wp2_with fail
            exact ⟨⟨i + 1, by omega, by go_num, hfin, hkfin⟩, by simp [intOf]; omega⟩
        · have hb2 := hb
          rw [if_neg h63, Int.toNat_natCast] at hb2
          have h64 : (i : Int) ≤ 63 := by omega
          cases b
          · have HS := Lib.hid hstep
            clear hstep
            go_wp2_with fail
            exact ⟨⟨i + 1, by omega, by go_num, hrow7.weak (fun _ h => h) (fun j hj => by have := HS.out j hj; simpa using this), hk7⟩, by simp [intOf]; omega⟩
          · obtain ⟨hsi, hli, hri, -⟩ := id hrow7
            obtain ⟨-, ⟨u, hu⟩, hfz⟩ := row_set hri hbS hqn (hval (wb, wc))
            have hdr : ∀ w, Below (World.heap w).size w w.drew := fun w => (Below.refl _ _).drew
            have hfin := (hrow7.keep (hdr _)).set hbS hqn (hsq7.keep ((hdr _).block _ hsq7.lt)) (.inl hGw) (fun j hj => (hstep j hj).trans (if_pos rfl))
            have hkfin := (hk7.trans (Keeps.of_below (F := fun b => (Value.slice (some ⟨gS, 0, none⟩) s.n cS).ownBlock = some b) (hdr _)) (fun b _ h => h)).set hbS qn (hval (wb, wc))
            have e0 : (wr.alloc (.cells #[.int .i64 (qn : Int), .slice (some ⟨wb, 0, none⟩) 64 wc] 81)).drew.cell? ⟨d, 0, none⟩ = _ := (five hd7).1
            have t50 : (wr.alloc (.cells #[.int .i64 (qn : Int), .slice (some ⟨wb, 0, none⟩) 64 wc] 81)).drew.cell? ⟨wr.heap.size, 0, none⟩ = some (.int .i64 (qn : Int)) := cell_of_row _ _ 0 _ _ _ ht5
            have t51 : (wr.alloc (.cells #[.int .i64 (qn : Int), .slice (some ⟨wb, 0, none⟩) 64 wc] 81)).drew.cell? ⟨wr.heap.size, 1, none⟩ = some (.slice (some ⟨wb, 0, none⟩) 64 wc) := cell_of_row _ _ 1 _ _ _ ht5
            have hu : (wr.alloc (.cells #[.int .i64 (qn : Int), .slice (some ⟨wb, 0, none⟩) 64 wc] 81)).drew.cell? ⟨gS, qn, none⟩ = some u := hu
            have hfz : (wr.alloc (.cells #[.int .i64 (qn : Int), .slice (some ⟨wb, 0, none⟩) 64 wc] 81)).drew.frozen? ⟨gS, qn, none⟩ = false := hfz
            unfold hval at hfin hkfin
            clear hstep hd7 hf7 ht5 hrow7 hri hsq7 hB7 hk7 hli hq hsecO hdr
            go_wp2_with fail
            refine wp_region_still_tail 9 (by kernel_rfl) (by kernel_rfl) ?_
            simp only [List.take_succ_cons, List.take_zero, List.drop_succ_cons, List.drop_zero]
            change wpStill _ _ (wr.alloc (.cells #[.int .i64 (qn : Int), .slice (some ⟨wb, 0, none⟩) 64 wc] 81)).drew _ _ _
            generalize hw7 : (wr.alloc (.cells #[.int .i64 (qn : Int), .slice (some ⟨wb, 0, none⟩) 64 wc] 81)).drew = w7 at e0 hu hfz hfin hkfin t50 t51 ⊢
            still_step
            still_step
            still_step
            still_step
            still_step
            still_step
            still_step
            still_step
            still_step
            refine wpStill_nil ?_
            change wpList _ _ _ _ _ (wr.alloc (.cells #[.int .i64 (qn : Int), .slice (some ⟨wb, 0, none⟩) 64 wc] 81)).drew
            rw [hw7]
            clear hw7 t50 t51 e0
            go_wp2_with fail
            exact ⟨⟨i + 1, by omega, by go_num, hfin, hkfin⟩, by simp [intOf]; omega⟩
    · obtain rfl : i = s.Q.length := by omega
      obtain ⟨x0, x1, x2, x3, x4⟩ := five hd4
      have f1 := frozen_blk hd4 1
      have hd5 := heap_setCell_same wr d 1 _ 74 (.slice none 0 0) hd4
      obtain ⟨z0, z1, z2, z3, z4⟩ := five hd5
      have f2 := frozen_blk hd5 2
      have hd6 := heap_setCell_same _ d 2 _ 74 (.int .i64 (-1)) hd5
      obtain ⟨v0, v1, v2, v3, v4⟩ := five hd6
      have f3 := frozen_blk hd6 3
      have hd7 := heap_setCell_same _ d 3 _ 74 (.bool false) hd6
      have hot : ∀ b, b ≠ d → (((wr.setCell ⟨d, 1, none⟩ (.slice none 0 0)).setCell ⟨d, 2, none⟩ (.int .i64 (-1))).setCell ⟨d, 3, none⟩ (.bool false)).heap[b]? = wr.heap[b]? := fun b hb => (heap_set2 _ _ _ _ _ hb).trans ((heap_set2 _ _ _ _ _ hb).trans (heap_set2 _ _ _ _ _ hb))
      have hkG : Keeps G W1 wr := ⟨hk.os, hk.tape, hk.output, hk.size, fun b hb hf => hk.block b hb (fun e => hf (hi.gS b e))⟩
      have kf := (((hK1.trans hkG (fun b _ h => h)).set h2 1 (.slice none 0 0)).set h2 2 (.int .i64 (-1))).set h2 3 (.bool false)
      have hszr : wr.heap.size = (((wr.setCell ⟨d, 1, none⟩ (.slice none 0 0)).setCell ⟨d, 2, none⟩ (.int .i64 (-1))).setCell ⟨d, 3, none⟩ (.bool false)).heap.size := by simp
      have fin : ∃ G', Grows G G' W.heap.size ∧ RefAt G' (((wr.setCell ⟨d, 1, none⟩ (.slice none 0 0)).setCell ⟨d, 2, none⟩ (.int .i64 (-1))).setCell ⟨d, 3, none⟩ (.bool false)) d (restDk s ⟨stay, torn, cut, head⟩) := by
        obtain ⟨hs', hl', hr', hx'⟩ := hrow
        refine ⟨fun b => (G b ∨ W.heap.size ≤ b) ∧ b < wr.heap.size, fun b hb => hb.1, hfok, fun b hb => by rw [← hszr]; exact hb.2, ⟨.inl h2, blk_lt hd4⟩, vS, .slice none 0 0, hs', [], hd7, ⟨fun k hk' => ⟨.inl (hi.gS k hk'), (hr'.lt k hk').2⟩, fun k hk => (by simp [Value.ownBlock] at hk), ownsRow_same hr' (fun b hb _ => hot b (fun e => ?_)), hl', fun j hj => ⟨(hx' j hj).1.keep (hot _ ((hx' j hj).1.ne hd4 (by decide))), (hx' j hj).2, (hx' j hj).1.lt⟩, World.ownsRow_nil _ _ _ _, rfl, fun j hj => absurd hj (Nat.not_lt_zero j)⟩⟩
        subst e
        exact hdne hb
      clear hi hd hd4 hd5 hd6 hd7 hR1 hrow h0 h1 hfok hk hkG c0 c1 c2 c3 c4 hf4 hbf hBB hGW hot
      go_wp2_with fail
      go_end0
      exact ⟨rfl, kf, fin⟩
end Go.Proofs.Ytpllifppjlakpaa.Dk
