/-
  disk: DiskNone.
-/
import Derived.Test.YtpllifppjlakpaaDkJ
namespace Go.Proofs.Ytpllifppjlakpaa.Dk
open Go.RowKit Go.Shelf Go.Proofs.Ytpllifppjlakpaa
attribute [local go_sem] Oper.semAt_some
set_option linter.unusedVariables false
set_option linter.unusedSimpArgs false
theorem NoDisk.keep {W W' : World} {B : Nat} {v : Value} (h : NoDisk W B v) (hb : W'.heap[B]? = W.heap[B]?) : NoDisk W' B v := by
  obtain ⟨h, ar, hh⟩ := h
  exact ⟨h, ar, hb.trans hh⟩
set_option maxHeartbeats 2000000 in
theorem none_law (W : World) (a : ActV) : Calls Try.prog 6 #[.agg a.cells.toArray] W fun e W' => e = .returned (.bool true) ∧ Below W.heap.size W W' := by
  obtain ⟨do_, n, A, m, c, bs, ⟨stay, torn, cut, head⟩⟩ := a
  unfold ActV.cells
  go_enter Try.func6, Try.ntmps6
  go_wp2_with fail
  have hB0 : Below W.heap.size W (W.alloc (.cells #[.int .i64 do_, .int .i64 n, .slice A m c, .int .u64 stay, .int .i64 torn, .int .i64 cut, .bool head] 32)) := (Below.refl _ _).alloc (Nat.le_refl _) _
  have ha0 : (W.alloc (.cells #[.int .i64 do_, .int .i64 n, .slice A m c, .int .u64 stay, .int .i64 torn, .int .i64 cut, .bool head] 32)).heap[W.heap.size]? = some (.cells #[.int .i64 do_, .int .i64 n, .slice A m c, .int .u64 stay, .int .i64 torn, .int .i64 cut, .bool head] 32 (0, 0)) := heap_alloc_last W _
  refine (awake_any _).mono ?_
  rintro e W1 ⟨rfl, hB1⟩
  have hB1' := hB0.trans (hB1.mono hB0.size)
  have ha1 := (hB1.block W.heap.size (by simp)).trans ha0
  clear ha0 hB1 hB0
  generalize hBa : W.heap.size = Ba at ha1 hB1' ⊢
  have hle : Ba ≤ W.heap.size := by omega
  have hBw : Ba ≤ W.heap.size := hle
  go_wp2_with fail
  have hz : ((W1.alloc (.cells (noCells 0) 58)).alloc (.cells #[.pointer none, .pointer (some ⟨W1.heap.size, 0, none⟩)] 26)).heap[W1.heap.size]? = some (.cells (noCells 0) 58 (0, 0)) := blk_alloc (heap_alloc_last W1 _) _
  have hs : ((W1.alloc (.cells (noCells 0) 58)).alloc (.cells #[.pointer none, .pointer (some ⟨W1.heap.size, 0, none⟩)] 26)).heap[W1.heap.size + 1]? = some (.cells #[.pointer none, .pointer (some ⟨W1.heap.size, 0, none⟩)] 26 (0, 0)) := blk_new _ _ (by simp)
  have ha2 := blk_alloc (blk_alloc ha1 (.cells (noCells 0) 58)) (.cells #[.pointer none, .pointer (some ⟨W1.heap.size, 0, none⟩)] 26)
  have hB2 := (hB1'.alloc (Nat.le_trans hBw hB1'.size) (.cells (noCells 0) 58)).alloc (by have := hB1'.size; simp; omega) (.cells #[.pointer none, .pointer (some ⟨W1.heap.size, 0, none⟩)] 26)
  have hzl : Ba ≤ W1.heap.size := Nat.le_trans hle (by have := hB1'.size; omega)
  have hza : Ba ≠ W1.heap.size := fun e => by have := blk_lt ha1; omega
  unfold noCells at hz hs ha2 hB2
  generalize (W1.alloc (.cells #[.slice none 0 0, .map none, .slice none 0 0, .int .i64 0, .int .i64 0, .bool false] 58)).alloc (.cells #[.pointer none, .pointer (some ⟨W1.heap.size, 0, none⟩)] 26) = W2 at hz hs ha2 hB2 ⊢
  have hzs : W1.heap.size + 1 ≠ W1.heap.size := by omega
  have hzs2 : Ba ≤ W1.heap.size + 1 := by omega
  generalize W1.heap.size + 1 = Bs at hs hzs hzs2 ⊢
  generalize W1.heap.size = Bz at hz hs hzs hzl hza ⊢
  clear ha1 hB1'
  go_loopw [15] (fun v wr => ∃ i : Nat, i ≤ 2 ∧ v = .int .i64 i ∧ wr.heap[Ba]? = some (.cells #[.int .i64 do_, .int .i64 n, .slice A m c, .int .u64 stay, .int .i64 torn, .int .i64 cut, .bool head] 32 (0, 0)) ∧
    wr.heap[Bs]? = some (.cells #[.pointer none, .pointer (some ⟨Bz, 0, none⟩)] 26 (0, 0)) ∧ (∃ ar, wr.heap[Bz]? = some (.cells (noCells ar) 58 (0, 0))) ∧ Below Ba W wr) (fun v _ => 2 - (intOf v).toNat)
  case atStart => exact ⟨0, by decide, rfl, ha2, hs, ⟨0, hz⟩, hB2⟩
  case round =>
    obtain ⟨i, hi, rfl, ha, hs, hz, hB⟩ := hrel
    have s0 : wr.cell? ⟨Bs, 0, none⟩ = some (.pointer none) := cell_of_row wr _ 0 _ _ _ hs
    have s1 : wr.cell? ⟨Bs, 1, none⟩ = some (.pointer (some ⟨Bz, 0, none⟩)) := cell_of_row wr _ 1 _ _ _ hs
    have x1 : wr.cell? ⟨Ba, 1, none⟩ = some (.int .i64 n) := cell_of_row wr _ 1 _ _ _ ha
    rcases (by omega : i = 0 ∨ i = 1 ∨ i = 2) with rfl | rfl | rfl
    · have hno : NoDisk wr Bz (.pointer none) := ⟨.inl rfl, hz⟩
      go_wp2_with fail
      refine (none_arm hno n).mono ?_
      rintro e W3 ⟨rfl, hno3, hK3⟩
      have a3 := (hK3.block Ba (blk_lt ha) hza).trans ha
      have s3 := (hK3.block Bs (blk_lt hs) hzs).trans hs
      have B3 : Below Ba W W3 := hB.trans (hK3.below (fun b e => by rw [e]; exact hzl) (Nat.le_trans hBw hB.size))
      have y3 : W3.cell? ⟨Ba, 3, none⟩ = some (.int .u64 stay) := cell_of_row W3 _ 3 _ _ _ a3
      have y4 : W3.cell? ⟨Ba, 4, none⟩ = some (.int .i64 torn) := cell_of_row W3 _ 4 _ _ _ a3
      have y5 : W3.cell? ⟨Ba, 5, none⟩ = some (.int .i64 cut) := cell_of_row W3 _ 5 _ _ _ a3
      have y6 : W3.cell? ⟨Ba, 6, none⟩ = some (.bool head) := cell_of_row W3 _ 6 _ _ _ a3
      clear ha hs hz hno s0 s1 x1 hK3
      go_wp2_with fail
      refine (none_restart hno3 #[.int .u64 stay, .int .i64 torn, .int .i64 cut, .bool head]).mono ?_
      rintro e W4 ⟨rfl, hB4⟩
      have a4 := (hB4.block Ba (blk_lt a3)).trans a3
      have s4 := (hB4.block Bs (blk_lt s3)).trans s3
      have hno4 := hno3.keep (hB4.block Bz (blk_lt hno3.2.choose_spec))
      have B4 : Below Ba W W4 := B3.trans (hB4.mono (Nat.le_trans hBw B3.size))
      have x1 : W4.cell? ⟨Ba, 1, none⟩ = some (.int .i64 n) := cell_of_row W4 _ 1 _ _ _ a4
      have x2 : W4.cell? ⟨Ba, 2, none⟩ = some (.slice A m c) := cell_of_row W4 _ 2 _ _ _ a4
      clear a3 s3 y3 y4 y5 y6 hno3 hB4 B3
      have hz4 := hno4.2
      have q1 := none_read hno4 n
      have q2 := none_write hno4 n A m c
      have q3 := none_flush hno4
      have q4 := none_down hno4
      have q5 := none_len hno4
      have q6 := none_acts hno4
      have q7 := none_bytes hno4
      have q8 := none_waiting hno4
      clear hno4
      go_wp2_with fail
      refine q1.mono ?_
      rintro e W5 ⟨rfl, rfl⟩
      go_wp2_with fail
      refine q2.mono ?_
      rintro e W5 ⟨rfl, rfl⟩
      go_wp2_with fail
      refine q3.mono ?_
      rintro e W5 ⟨rfl, rfl⟩
      go_wp2_with fail
      refine q4.mono ?_
      rintro e W5 ⟨rfl, rfl⟩
      go_wp2_with fail
      refine q5.mono ?_
      rintro e W5 ⟨rfl, rfl⟩
      go_wp2_with fail
      refine q6.mono ?_
      rintro e W5 ⟨rfl, rfl⟩
      go_wp2_with fail
      refine q7.mono ?_
      rintro e W5 ⟨rfl, rfl⟩
      go_wp2_with fail
      refine q8.mono ?_
      rintro e W5 ⟨rfl, rfl⟩
      go_wp2_with fail
      exact ⟨⟨1, by decide, rfl, a4, s4, hz4, B4⟩, by decide⟩
    · have hno : NoDisk wr Bz (.pointer (some ⟨Bz, 0, none⟩)) := ⟨.inr rfl, hz⟩
      go_wp2_with fail
      refine (none_arm hno n).mono ?_
      rintro e W3 ⟨rfl, hno3, hK3⟩
      have a3 := (hK3.block Ba (blk_lt ha) hza).trans ha
      have s3 := (hK3.block Bs (blk_lt hs) hzs).trans hs
      have B3 : Below Ba W W3 := hB.trans (hK3.below (fun b e => by rw [e]; exact hzl) (Nat.le_trans hBw hB.size))
      have y3 : W3.cell? ⟨Ba, 3, none⟩ = some (.int .u64 stay) := cell_of_row W3 _ 3 _ _ _ a3
      have y4 : W3.cell? ⟨Ba, 4, none⟩ = some (.int .i64 torn) := cell_of_row W3 _ 4 _ _ _ a3
      have y5 : W3.cell? ⟨Ba, 5, none⟩ = some (.int .i64 cut) := cell_of_row W3 _ 5 _ _ _ a3
      have y6 : W3.cell? ⟨Ba, 6, none⟩ = some (.bool head) := cell_of_row W3 _ 6 _ _ _ a3
      clear ha hs hz hno s0 s1 x1 hK3
      go_wp2_with fail
      refine (none_restart hno3 #[.int .u64 stay, .int .i64 torn, .int .i64 cut, .bool head]).mono ?_
      rintro e W4 ⟨rfl, hB4⟩
      have a4 := (hB4.block Ba (blk_lt a3)).trans a3
      have s4 := (hB4.block Bs (blk_lt s3)).trans s3
      have hno4 := hno3.keep (hB4.block Bz (blk_lt hno3.2.choose_spec))
      have B4 : Below Ba W W4 := B3.trans (hB4.mono (Nat.le_trans hBw B3.size))
      have x1 : W4.cell? ⟨Ba, 1, none⟩ = some (.int .i64 n) := cell_of_row W4 _ 1 _ _ _ a4
      have x2 : W4.cell? ⟨Ba, 2, none⟩ = some (.slice A m c) := cell_of_row W4 _ 2 _ _ _ a4
      clear a3 s3 y3 y4 y5 y6 hno3 hB4 B3
      have hz4 := hno4.2
      have q1 := none_read hno4 n
      have q2 := none_write hno4 n A m c
      have q3 := none_flush hno4
      have q4 := none_down hno4
      have q5 := none_len hno4
      have q6 := none_acts hno4
      have q7 := none_bytes hno4
      have q8 := none_waiting hno4
      clear hno4
      go_wp2_with fail
      refine q1.mono ?_
      rintro e W5 ⟨rfl, rfl⟩
      go_wp2_with fail
      refine q2.mono ?_
      rintro e W5 ⟨rfl, rfl⟩
      go_wp2_with fail
      refine q3.mono ?_
      rintro e W5 ⟨rfl, rfl⟩
      go_wp2_with fail
      refine q4.mono ?_
      rintro e W5 ⟨rfl, rfl⟩
      go_wp2_with fail
      refine q5.mono ?_
      rintro e W5 ⟨rfl, rfl⟩
      go_wp2_with fail
      refine q6.mono ?_
      rintro e W5 ⟨rfl, rfl⟩
      go_wp2_with fail
      refine q7.mono ?_
      rintro e W5 ⟨rfl, rfl⟩
      go_wp2_with fail
      refine q8.mono ?_
      rintro e W5 ⟨rfl, rfl⟩
      go_wp2_with fail
      exact ⟨⟨2, by decide, rfl, a4, s4, hz4, B4⟩, by decide⟩
    · go_wp2_with fail
      go_ret
      exact ⟨rfl, hBa ▸ hB⟩
end Go.Proofs.Ytpllifppjlakpaa.Dk
namespace Go.Proofs.Ytpllifppjlakpaa
open Go.RowKit
open Go.ChangeShapes Go.WideShapes Go.ChangeAt in
theorem Dk.act_val {W : World} {H : Type} {enc : TypeId × Value → H} {base : Nat} {d : DataW H} {p : List MemPlace} {v : Value} (hok : Value.okWide Try.prog W .any base 32 v) (ht : DataW.Trod enc Try.prog W 0 (fun _ => true) true 32 v d p) :
    ∃ a : Dk.ActV, v = .agg a.cells.toArray ∧ Dk.ActOk W a := by
  obtain ⟨cs, rfl, _⟩ := okWide_struct Try.underlying32 hok
  obtain ⟨fuel, hf⟩ := ht
  obtain ⟨a, ha, hao⟩ := Dk.act_open (cs := cs.toList) hf
  exact ⟨a, by rw [← ha], hao⟩
theorem diskNone_walk (W : World) {H : Type} {enc : TypeId × Value → H} {base : Nat} {d : DataW H} {p : List MemPlace} (v : Value) (hok : Value.okWide Try.prog W .any base 32 v) (ht : DataW.Trod enc Try.prog W 0 (fun _ => true) true 32 v d p) :
    Calls Try.prog 6 #[v] W fun e W' => e = .returned (.bool true) ∧ Below W.heap.size W W' := by
  obtain ⟨a, rfl, _⟩ := Dk.act_val hok ht
  exact Dk.none_law W a
end Go.Proofs.Ytpllifppjlakpaa
