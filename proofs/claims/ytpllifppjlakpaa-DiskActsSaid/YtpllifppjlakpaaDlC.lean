/-
  disk: the reference's Bytes; Waiting, both.
-/
import Derived.Test.YtpllifppjlakpaaDlB
namespace Go.Proofs.Ytpllifppjlakpaa.Dk
open Go.RowKit Go.Shelf Go.Proofs.Ytpllifppjlakpaa
attribute [local go_sem] Oper.semAt_some
set_option linter.unusedVariables false
set_option linter.unusedSimpArgs false
set_option maxHeartbeats 1000000 in
theorem rbytes_any {G : Nat → Prop} {W : World} {d : Nat} {s : Dk} (h : RefAt G W d s) :
    Calls Try.prog 37 #[.pointer (some ⟨d, 0, none⟩)] W fun e W' => Below W.heap.size W W' ∧ ∃ A c, e = .returned (.slice A s.L.length c) ∧ OwnBytes W' W.heap.size (.slice A s.L.length c) s.L := by
  obtain ⟨h0, h1, h2, vS, vW, hs, ws, hd, hi⟩ := id h
  obtain ⟨c0, -⟩ := five hd
  have hn := h0.n
  have hlen := h0.len
  have hby := h0.bytes
  have hhl := hi.hlen
  have hrow := hi.row
  have hsec := fun j hj => (hi.secs j hj).1
  obtain ⟨A1, c1, rfl, hc1⟩ := slice_form hi.row
  clear h0 h1 h2 hi h
  go_enter Try.func37, Try.ntmps37
  go_wp2_with fail
  clear c0
  go_loopw [3, 11] (fun v3 v wr => ∃ i : Nat, i ≤ s.n ∧ v = .int .i64 i ∧ OwnBytes wr W.heap.size v3 (s.L.take (64 * i)) ∧ Below W.heap.size W wr) (fun _ v _ => s.n - (intOf v).toNat)
  case atStart => exact ⟨0, Nat.zero_le _, rfl, by rw [Nat.mul_zero, List.take_zero]; exact World.ownsRow_nil _ _ _ _, Below.refl _ _⟩
  case round =>
    obtain ⟨i, hi, rfl, ho, hb⟩ := hrel
    by_cases hlt : i < s.n
    · have hib : i < hs.length := by omega
      obtain ⟨gS, cS, e, hcS, hbS, hcell⟩ := row_cell hrow (by omega)
      injection e with e1 _ e3
      subst e1; subst e3
      have e5 := hcell i (hval hs[i]) (by rw [List.getElem?_map, List.getElem?_eq_getElem hib]; rfl)
      have e5 := (World.cell?_of_block (a := ⟨gS, i, none⟩) (hb.block gS (World.block_lt_of_cell? W _ e5))).trans e5
      have hq := hsec i hib
      have hq := hq.keep (hb.block _ hq.lt)
      generalize hs[i] = hh at e5 hq
      obtain ⟨gb, cb⟩ := hh
      unfold hval at e5
      have hr := hq.bytes
      have hsx := hq.1
      have Hn : Hid (s.L.take (64 * i) ++ secOf s.L i = s.L.take (64 * (i + 1))) := by
        show _ = _
        unfold secOf
        rw [show 64 * (i + 1) = 64 * i + 64 by omega, List.take_add]
      have hl1 : (s.L.take (64 * i)).length = 64 * i := by rw [List.length_take]; omega
      have Hl1 := Lib.hid hl1
      have Hlen := Lib.hid hlen
      clear hl1 hlen hcell hd hhl hsec hrow hq
      go_wp2_with (refine wpL_app (by rfl) (.tmp 15) (.tmp 16) rfl W.heap.size _ (s.L.take (64 * i)) rfl ho wr.heap.size _ _ _ (secOf s.L i) rfl hr (by rw [Hl1.out]; omega) hb.size ?_; intro A' c' w' ho' hg' hbl')
      rw [Hn.out] at ho' hbl'
      exact ⟨⟨i + 1, by omega, by go_num, by rw [show min (64 * i) s.L.length + (secOf s.L i).length = (s.L.take (64 * (i + 1))).length by rw [hsx.1, List.length_take, Hlen.out]; omega]; exact ho', ho.frame hb hg' hb.size (Nat.le_refl _)⟩, by simp [intOf]; omega⟩
    · obtain rfl : i = s.n := by omega
      obtain ⟨A, c, rfl⟩ := ho.form
      rw [← hlen, List.take_of_length_le (Nat.le_refl _)] at ho
      clear hd hhl hsec hrow
      go_wp2_with fail
      go_ret
      rw [← hlen, List.take_of_length_le (Nat.le_refl _)]
      exact ⟨hb, _, _, rfl, ho⟩
theorem info3 : (Try.prog.info? 3).map (fun i => (i.zero, i.size, i.bytes)) = some (some (.int .i64 0), 1, 8) := by kernel_rfl
theorem int_app {w : World} {N : Nat} {v : Value} {n : Nat} {xs : List Value} (h : w.ownsRow N 3 1 v n xs) (hn : n < 1954687338268) (hN : N ≤ w.heap.size) (k : Int) (ty : TypeId) (b : Nat) (hb : w.heap.size = b) :
    ∃ A c w', (Builtin.append_ #[43, 43] ty #[v, .slice (some ⟨b, 0, none⟩) 1 1]).run Try.prog (w.alloc (.cells #[.int .i64 k] 3)) = .ok (.slice A (n + 1) c) w' ∧ w'.ownsRow N 3 1 (.slice A (n + 1) c) (n + 1) (xs ++ [.int .i64 k]) ∧ Below N w w' := by
  subst hb
  obtain ⟨i0, hi, hz0, hz1, hz2⟩ := info_parts info3
  obtain ⟨v', w', hrun, hown, hgrow, -, hblk⟩ := run_append_own_at (P := Try.prog) (w.alloc (.cells #[.int .i64 k] 3)) N 43 ty 3 i0 (.int .i64 0) 1 8 Try.underlying43 hi hz0 hz1 hz2 rfl (by decide) v n _ (h.alloc _) ⟨w.heap.size, 0, none⟩ 1 1 [.int .i64 k] rfl
    (cell_one_new _ _ _) (fun u hu => by obtain rfl := List.mem_singleton.1 hu; rfl) (by simp only [maxLen]; omega) (by omega) (by simp; omega)
  obtain ⟨A, c, rfl, -⟩ := slice_form hown
  refine ⟨A, c, w', hrun, hown, ?_⟩
  have hb0 : Below N w (w.alloc (.cells #[.int .i64 k] 3)) := (Below.refl _ _).alloc hN _
  exact hb0.trans ⟨hgrow.os, hgrow.tape, hgrow.output, hgrow.size, fun k' hk => by
    have : N ≤ (w.alloc (.cells #[.int .i64 k] 3)).heap.size := by simp; omega
    exact hgrow.block k' (by omega) (fun e => by have := (h.lt k' e.symm).1; omega)⟩
/-- The sectors of the waiting writes. -/
def waitN (Q : List (Nat × List Int)) : List Int := Q.map fun q => (q.1 : Int)
theorem waitN_len (Q : List (Nat × List Int)) : (waitN Q).length = Q.length := List.length_map ..
def NumsAt (W : World) (A : Option Addr) (xs : List Int) : Prop := 0 < xs.length → ∃ g, A = some ⟨g, 0, none⟩ ∧ ∀ j (hj : j < xs.length), W.cell? ⟨g, j, none⟩ = some (.int .i64 xs[j])
theorem nums_row {W : World} {N : Nat} {A : Option Addr} {n c : Nat} {xs : List Int} (h : W.ownsRow N 3 1 (.slice A n c) n (xs.map (Value.int .i64))) : NumsAt W A xs := fun h0 => by
  have hl := h.1
  rw [List.length_map, Nat.mul_one] at hl
  obtain ⟨g, c', e, -, -, hcell⟩ := row_cell h (by omega)
  injection e with e _ _
  exact ⟨g, e, fun j hj => hcell j _ (by rw [List.getElem?_map, List.getElem?_eq_getElem hj]; rfl)⟩
theorem NumsAt.below {W W' : World} {A : Option Addr} {xs : List Int} (h : NumsAt W A xs) (hb : Below W.heap.size W W') : NumsAt W' A xs := fun h0 => by
  obtain ⟨g, e, hc⟩ := h h0
  exact ⟨g, e, fun j hj => (World.cell?_of_block (a := ⟨g, j, none⟩) (hb.block g (World.block_lt_of_cell? W _ (hc j hj)))).trans (hc j hj)⟩
theorem waitN_take {Q : List (Nat × List Int)} {i : Nat} (hi : i < Q.length) : waitN (Q.take (i + 1)) = waitN (Q.take i) ++ [(Q[i].1 : Int)] := by
  unfold waitN
  rw [List.take_succ_eq_append_getElem hi, List.map_append]
  rfl
def WaitsAs (W W' : World) (e : Ending) (s : Dk) : Prop := ∃ A c, e = .returned (.slice A s.Q.length c) ∧ s.Q.length ≤ c ∧ NumsAt W' A (waitN s.Q)
set_option maxHeartbeats 1000000 in
theorem rwaiting_any {G : Nat → Prop} {W : World} {d : Nat} {s : Dk} (h : RefAt G W d s) :
    Calls Try.prog 38 #[.pointer (some ⟨d, 0, none⟩)] W fun e W' => Below W.heap.size W W' ∧ WaitsAs W W' e s := by
  obtain ⟨h0, h1, h2, vS, vW, hs, ws, hd, hi⟩ := id h
  obtain ⟨c0, c1, -⟩ := five hd
  have hroom := h0.room
  obtain ⟨AW, cW, rfl, hcW⟩ := slice_form hi.wrow
  have HI := Lib.hid hi
  clear h0 h1 h2 hi h
  go_enter Try.func38, Try.ntmps38
  go_wp2_with fail
  clear c0 c1
  go_loopw [3, 11] (fun v3 v wr => ∃ i : Nat, i ≤ s.Q.length ∧ v = .int .i64 i ∧ wr.ownsRow W.heap.size 3 1 v3 i ((waitN (s.Q.take i)).map (Value.int .i64)) ∧ Below W.heap.size W wr) (fun _ v _ => s.Q.length - (intOf v).toNat)
  case atStart => exact ⟨0, Nat.zero_le _, rfl, World.ownsRow_nil _ _ _ _, Below.refl _ _⟩
  case round =>
    obtain ⟨i, hile, rfl, ho, hb⟩ := hrel
    by_cases hlt : i < s.Q.length
    · obtain ⟨gW, cW', wb, wc, e, hcW', w1, w2, -, -⟩ := wait_at (d := d) HI.out hlt (fun b hb' _ => hb.block b hb')
      injection e with e1 _ e3
      subst e1; subst e3
      have Hwn := Lib.hid (waitN_take hlt)
      generalize s.Q[i].1 = qn at w1 Hwn
      have ho1 := ho.alloc (.cells #[.int .i64 (qn : Int), .slice (some ⟨wb, 0, none⟩) 64 wc] 81)
      obtain ⟨A, c, w', hrun, hown, hbel⟩ := int_app ho1 (by omega) (by have := hb.size; simp; omega) (qn : Int) 43 (wr.heap.size + 1) (by simp)
      have hB : Below W.heap.size W w' := (hb.alloc hb.size _).trans hbel
      clear ho ho1
      clear hd
      go_wp2_with (refine list_runs (by rfl) (runs_append rfl rfl rfl hrun) ?_)
      refine ⟨⟨i + 1, by omega, by go_num, ?_, hB⟩, by simp [intOf]; omega⟩
      rw [Hwn.out, List.map_append]
      exact hown
    · obtain rfl : i = s.Q.length := by omega
      obtain ⟨A, c, rfl, hc⟩ := slice_form ho
      rw [List.take_length] at ho
      have hN := nums_row ho
      clear hd ho
      go_wp2_with fail
      go_ret
      exact ⟨hb, A, c, rfl, hc, hN⟩
end Go.Proofs.Ytpllifppjlakpaa.Dk
