/-
  disk: the reference's Flush.
-/
import Derived.Test.YtpllifppjlakpaaDkW
namespace Go.Proofs.Ytpllifppjlakpaa.Dk
open Go.RowKit Go.Shelf Go.Proofs.Ytpllifppjlakpaa
attribute [local go_sem] Oper.semAt_some
set_option linter.unusedVariables false
set_option linter.unusedSimpArgs false
theorem flushDk_ok {s : Dk} (h : DkOk s) : DkOk (flushDk s) := by
  have h0 := act_ok h
  have hsec : ∀ i, i < s.n → isSec ((s.C (i : Int)).getD (secOf s.L i)) := fun i hi => cache_sec h hi
  refine ⟨h0.n, ?_, secs_bytes (fun i hi => (hsec i hi).2), fun k x hx => (by cases hx), fun q hq => absurd hq List.not_mem_nil, Nat.zero_le _, h0.armed, h0.acts⟩
  show (flushL s).length = 64 * (actDk s).n
  rw [actDk_n]
  exact secs_length s.n (fun i hi => (hsec i hi).1)
/-- What a waiting write is, in a world in which the row of the waiting writes stands. -/
theorem wait_at {G : Nat → Prop} {W w : World} {d : Nat} {s : Dk} {vS vW : Value} {hs : List (Nat × Nat)} {ws : List (Nat × (Nat × Nat))} (hi : RefIn G W s vS vW hs ws) {i : Nat} (hlt : i < s.Q.length) (hb : ∀ b, b < W.heap.size → vS.ownBlock ≠ some b → w.heap[b]? = W.heap[b]?) :
    ∃ gW cW wb wc, vW = .slice (some ⟨gW, 0, none⟩) s.Q.length cW ∧ s.Q.length ≤ cW ∧ w.cell? ⟨gW, i * 2, none⟩ = some (.int .i64 (s.Q[i].1 : Int)) ∧ w.cell? ⟨gW, i * 2 + 1, none⟩ = some (.slice (some ⟨wb, 0, none⟩) 64 wc) ∧ Sec5 w (wb, wc) s.Q[i].2 ∧ G wb := by
  have hiw : i < ws.length := by rw [hi.wlen]; exact hlt
  obtain ⟨gW, cW, rfl, hc, hbW, hcell⟩ := row_cell hi.wrow (by omega)
  obtain ⟨w1, w2⟩ := wait_cells hiw
  have w1 := hcell _ _ w1
  have w2 := hcell _ _ w2
  have hgl := World.block_lt_of_cell? W _ w1
  have hne : vS.ownBlock ≠ some gW := fun e => by
    obtain ⟨cl, hh⟩ := ownsRow_type hi.row e
    obtain ⟨cl2, hh2⟩ := ownsRow_type hi.wrow hbW
    exact absurd (blk_type hh hh2) (by decide)
  obtain ⟨e1, e2, e3⟩ := hi.wsecs i hiw hlt
  have hne2 : vS.ownBlock ≠ some ws[i].2.1 := fun e => by
    obtain ⟨cl, hh⟩ := ownsRow_type hi.row e
    exact e2.ne hh (by decide) rfl
  rw [e1] at w1
  exact ⟨gW, cW, ws[i].2.1, ws[i].2.2, rfl, hc, (World.cell?_of_block (a := ⟨gW, i * 2, none⟩) (hb gW hgl hne)).trans w1, (World.cell?_of_block (a := ⟨gW, i * 2 + 1, none⟩) (hb gW hgl hne)).trans w2, e2.keep (hb _ e2.lt hne2), e3⟩
/-- The disk behind its row of sectors, when the waiting writes are let go. -/
theorem ref_shut {G : Nat → Prop} {W w : World} {d : Nat} {t s' : Dk} {vS vW : Value} (h : RefAt G W d t) (hd : W.heap[d]? = some (.cells #[vS, vW, .int .i64 t.armed, .bool t.off, .int .i64 t.acts] 74 (0, 0))) (hS : ∀ k, vS.ownBlock = some k → G k) (hsz : W.heap.size ≤ w.heap.size)
    (hd' : w.heap[d]? = some (.cells #[vS, .slice none 0 0, .int .i64 s'.armed, .bool s'.off, .int .i64 s'.acts] 74 (0, 0))) (hok : DkOk s') (hQ : s'.Q = []) (hr : RowSt G w s'.n vS (fun j => secOf s'.L j)) : RefAt G w d s' := by
  obtain ⟨h0, h1, h2, -⟩ := h
  obtain ⟨hs, hl, hro, hx⟩ := hr
  refine ⟨hok, fun b hb => Nat.lt_of_lt_of_le (h1 b hb) hsz, h2, vS, .slice none 0 0, hs, [], hd', hS, fun k hk => (by simp [Value.ownBlock] at hk), hro, hl, hx, by rw [hQ]; exact World.ownsRow_nil _ _ _ _, by rw [hQ]; rfl, fun j hj => absurd hj (Nat.not_lt_zero j)⟩
set_option maxHeartbeats 4000000 in
theorem rflush_any {G : Nat → Prop} {W : World} {d : Nat} {s : Dk} (h : RefAt G W d s) (hh : Holds s) (hoff : s.off = false) (harm : s.armed ≠ 0) :
    Calls Try.prog 33 #[.pointer (some ⟨d, 0, none⟩)] W fun e W' => e = .returned (.int .i64 0) ∧ Keeps G W W' ∧ RefAt G W' d (flushDk s) := by
  have hact := ract_any h
  rw [if_neg harm] at hact
  obtain ⟨-, -, -, vS0, vW0, hs0, ws0, hd0, -⟩ := id h
  obtain ⟨-, -, -, c3, -⟩ := five hd0
  rw [hoff] at c3
  have hfok := flushDk_ok h.1
  have hfe : flushDk s = { actDk s with L := applyQ (actDk s).L (actDk s).Q, C := fun _ => none, Q := [] } := by
    unfold flushDk
    rw [flush_is h.1 hh, actDk_L, actDk_Q]
  rw [hfe] at hfok ⊢
  clear hd0 h hh hfe
  generalize actDk s = t at hact hfok ⊢
  go_enter Try.func33, Try.ntmps33
  go_wp2_with fail
  refine hact.mono ?_
  rintro e W1 ⟨rfl, hR1, hK1⟩
  obtain ⟨h0, h1, h2, vS, vW, hs, ws, hd, hi⟩ := id hR1
  obtain ⟨c0, c1, c2, c3', c4⟩ := five hd
  obtain ⟨AW, cW, rfl, hcW⟩ := slice_form hi.wrow
  have hroom := h0.room
  clear hact c3
  go_wp2_with fail
  go_loopw [20] (fun v wr => ∃ i : Nat, i ≤ t.Q.length ∧ v = .int .i64 i ∧ RowSt G wr t.n vS (fun j => secOf (applyQ t.L (t.Q.take i)) j) ∧ Keeps (fun b => vS.ownBlock = some b) W1 wr) (fun v _ => t.Q.length - (intOf v).toNat)
  case atStart => exact ⟨0, Nat.zero_le _, rfl, ⟨hs, hi.hlen, hi.row, hi.secs⟩, Keeps.refl _ _⟩
  case round =>
    obtain ⟨i, hile, rfl, hrow, hk⟩ := hrel
    have hdne : vS.ownBlock ≠ some d := fun e => by
      obtain ⟨cl, hh⟩ := ownsRow_type hi.row e
      exact absurd (blk_type hd hh) (by decide)
    have hd4 := (hk.block d (blk_lt hd) hdne).trans hd
    by_cases hlt : i < t.Q.length
    · have hq := h0.queue _ (List.getElem_mem hlt)
      obtain ⟨gW, cW', wb, wc, e, hcW', w1, w2, hsq, hGw⟩ := wait_at (d := d) hi hlt (fun b hb hn => hk.block b hb hn)
      injection e with e _ e3
      subst e
      subst e3
      obtain ⟨gS, cS, rfl, hcS, hbS, -⟩ := row_cell hi.row (by omega)
      have hstep : ∀ j, j < t.n → secOf (applyQ t.L (t.Q.take (i + 1))) j = if j = t.Q[i].1 then t.Q[i].2 else secOf (applyQ t.L (t.Q.take i)) j := fun j hj => by
        rw [read_step h0 hlt hj]
        by_cases e : t.Q[i].1 = j
        · rw [if_pos e, if_pos e.symm]
        · rw [if_neg e, if_neg (fun h => e h.symm)]
      generalize t.Q[i] = q at hq w1 hsq hstep
      obtain ⟨qn, qx⟩ := q
      have hqn : qn < t.n := hq.1
      have hB7 : Below wr.heap.size wr (wr.alloc (.cells #[.int .i64 (qn : Int), .slice (some ⟨wb, 0, none⟩) 64 wc] 81)).drew := ((Below.refl _ _).alloc (Nat.le_refl _) _).drew
      have hrow7 := hrow.keep hB7
      have hsq7 := hsq.keep (hB7.block _ hsq.lt)
      have hd7 := (hB7.block d (blk_lt hd4)).trans hd4
      have e0 := (five hd7).1
      obtain ⟨hsi, hli, hri, -⟩ := id hrow7
      obtain ⟨-, ⟨u, hu⟩, hfz⟩ := row_set hri hbS hqn (hval (wb, wc))
      have hfin := hrow7.set hbS hqn hsq7 hGw hstep
      have hkfin : Keeps (fun b => (Value.slice (some ⟨gS, 0, none⟩) t.n cS).ownBlock = some b) W1 ((wr.alloc (.cells #[.int .i64 (qn : Int), .slice (some ⟨wb, 0, none⟩) 64 wc] 81)).drew.setCell ⟨gS, qn, none⟩ (hval (wb, wc))) := (hk.trans (Keeps.of_below (F := fun b => (Value.slice (some ⟨gS, 0, none⟩) t.n cS).ownBlock = some b) hB7) (fun b _ h => h)).set hbS qn _
      unfold hval at hfin hkfin
      have ht5 := heap_alloc_last wr (.cells #[.int .i64 (qn : Int), .slice (some ⟨wb, 0, none⟩) 64 wc] 81)
      have t50 : (wr.alloc (.cells #[.int .i64 (qn : Int), .slice (some ⟨wb, 0, none⟩) 64 wc] 81)).drew.cell? ⟨wr.heap.size, 0, none⟩ = some (.int .i64 (qn : Int)) := cell_of_row _ _ 0 _ _ _ ht5
      have t51 : (wr.alloc (.cells #[.int .i64 (qn : Int), .slice (some ⟨wb, 0, none⟩) 64 wc] 81)).drew.cell? ⟨wr.heap.size, 1, none⟩ = some (.slice (some ⟨wb, 0, none⟩) 64 wc) := cell_of_row _ _ 1 _ _ _ ht5
      clear hi hd hd4 hd7 hR1 hrow hrow7 hri hsq hsq7 hstep h0 h1 h2 c0 c1 c2 c3' c4 hq hli hfok ht5 hk hB7
      go_wp2_with fail
      refine wp_region_still_tail 9 (by kernel_rfl) (by kernel_rfl) ?_
      simp only [List.take_succ_cons, List.take_zero, List.drop_succ_cons, List.drop_zero]
      change wpStill _ _ (wr.alloc (.cells #[.int .i64 (qn : Int), .slice (some ⟨wb, 0, none⟩) 64 wc] 81)).drew _ _ _
      generalize hw7 : (wr.alloc (.cells #[.int .i64 (qn : Int), .slice (some ⟨wb, 0, none⟩) 64 wc] 81)).drew = w7 at e0 hu hfz hfin hkfin t50 t51 ⊢
      still_step
      still_step
      still_step
      still_step
      still_step
      still_step
      still_step
      still_step
      still_step
      refine wpStill_nil ?_
      change wpList _ _ _ _ _ (wr.alloc (.cells #[.int .i64 (qn : Int), .slice (some ⟨wb, 0, none⟩) 64 wc] 81)).drew
      rw [hw7]
      clear hw7 t50 t51 e0
      go_wp2_with fail
      exact ⟨⟨i + 1, by omega, by go_num, hfin, hkfin⟩, by simp [intOf]; omega⟩
    · obtain rfl : i = t.Q.length := by omega
      rw [List.take_length] at hrow
      obtain ⟨x0, x1, x2, x3, x4⟩ := five hd4
      have f1 := frozen_blk hd4 1
      have hd5 := heap_setCell_same wr d 1 _ 74 (.slice none 0 0) hd4
      have hkG : Keeps G W1 wr := ⟨hk.os, hk.tape, hk.output, hk.size, fun b hb hf => hk.block b hb (fun e => hf (hi.gS b e))⟩
      have hrow5 : RowSt G (wr.setCell ⟨d, 1, none⟩ (.slice none 0 0)) t.n vS (fun j => secOf (applyQ t.L t.Q) j) := by
        obtain ⟨hs', hl', hr', hx'⟩ := hrow
        refine ⟨hs', hl', ownsRow_same hr' (fun b hb _ => heap_set2 _ _ _ _ _ (fun e => ?_)), fun j hj => ⟨(hx' j hj).1.keep (heap_set2 _ _ _ _ _ ((hx' j hj).1.ne hd4 (by decide))), (hx' j hj).2⟩⟩
        subst e
        exact hdne hb
      have fin : RefAt G (wr.setCell ⟨d, 1, none⟩ (.slice none 0 0)) d { t with L := applyQ t.L t.Q, C := fun _ => none, Q := [] } := ref_shut hR1 hd hi.gS (by simpa using hk.size) hd5 hfok rfl hrow5
      have kf : Keeps G W (wr.setCell ⟨d, 1, none⟩ (.slice none 0 0)) := (hK1.trans hkG (fun b _ h => h)).set h2 1 _
      clear hi hd hd4 hR1 hrow hrow5 h0 h1 hfok hk hkG c0 c1 c2 c3' c4 hd5
      go_wp2_with fail
      go_ret
      exact ⟨rfl, kf, fin⟩
end Go.Proofs.Ytpllifppjlakpaa.Dk
