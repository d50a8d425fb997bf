/-
  disk: awake.
-/
import Derived.Test.YtpllifppjlakpaaDkG
namespace Go.Proofs.Ytpllifppjlakpaa.Dk
open Go.RowKit Go.Shelf Go.Proofs.Ytpllifppjlakpaa
attribute [local go_sem] Oper.semAt_some
set_option linter.unusedVariables false
set_option linter.unusedSimpArgs false
def av : List Int := (nots 64).set 0 1
def bv : List Int := (nots 64).set 0 2
def awDk : Dk := restDk (writeDk (writeDk (newDk 4) 1 av) 2 bv) ⟨2, -1, 0, false⟩
theorem av_sec : isSec av := ⟨by decide, by unfold isBytes; decide⟩
theorem bv_sec : isSec bv := ⟨by decide, by unfold isBytes; decide⟩
theorem aw_1 : (((awDk.C 1).getD (secOf awDk.L 1))[0]?).getD 0 = 0 := by kernel_rfl
theorem aw_2 : (((awDk.C 2).getD (secOf awDk.L 2))[0]?).getD 0 = 2 := by kernel_rfl
theorem aw_acts : awDk.acts = 2 := by kernel_rfl
theorem aw_n : awDk.n = 4 := by kernel_rfl
theorem aw_off : awDk.off = false := rfl
theorem cell0 {W : World} {B : Nat} {A : Option Addr} {n : Nat} {x : List Int} (h : BytesAt W B A n x) (hn : 0 < n) : ∃ b off, A = some ⟨b, off, none⟩ ∧ W.cell? ⟨b, off, none⟩ = some (.int .u8 ((x[0]?).getD 0)) := by
  obtain ⟨b, off, e, _, h⟩ := h.2.2 hn
  exact ⟨b, off, e, h 0 hn⟩
theorem bytes_of_blk {W : World} {g t : Nat} {x : List Int} (hx : isSec x) (h : W.heap[g]? = some (.cells (ints .u8 x) t (0, 0))) : BytesAt W W.heap.size (some ⟨g, 0, none⟩) 64 x :=
  bytes_of_range hx (blk_lt h) (fun j v hv => by rw [cell_of_row W g (0 + j) _ _ _ h, Nat.zero_add]; simpa using hv)
set_option maxHeartbeats 2000000 in
theorem awake_any (W : World) : Calls Try.prog 8 #[] W fun e W' => e = .returned (.bool true) ∧ Below W.heap.size W W' := by
  have hmk : ∀ w : World, (Instr.makeSlice 22 (.int .i64 64) (.int .i64 64)).run Try.prog w = .ok (.slice (some ⟨w.heap.size, 0, none⟩) 64 64) (w.alloc (.cells (ints .u8 (nots 64)) 5)) := fun w => make_n 64 (by decide) w
  go_enter Try.func8, Try.ntmps8
  go_wp2_with fail
  refine (new_any 4 (by decide) (by decide) W).mono ?_
  rintro e W1 ⟨hB1, d, F, rfl, hF, hD1⟩
  go_wp2_with fail
  go_region
  · have hB2 : Below W.heap.size W ((W1.alloc (.cells (ints .u8 (nots 64)) 5)).alloc (.cells (ints .u8 (nots 64)) 5)).drew := (((hB1.alloc hB1.size _).alloc (by have := hB1.size; simp; omega) _)).drew
    have hD2 : DiskAt F ((W1.alloc (.cells (ints .u8 (nots 64)) 5)).alloc (.cells (ints .u8 (nots 64)) 5)).drew d (newDk 4) := hD1.below ((((Below.refl _ _).alloc (Nat.le_refl _) _).alloc (by simp) _).drew)
    have hb2 : ((W1.alloc (.cells (ints .u8 (nots 64)) 5)).alloc (.cells (ints .u8 (nots 64)) 5)).drew.heap[W1.heap.size]? = some (.cells (ints .u8 (nots 64)) 5 (0, 0)) := blk_alloc (heap_alloc_last W1 _) _
    have hb3 : ((W1.alloc (.cells (ints .u8 (nots 64)) 5)).alloc (.cells (ints .u8 (nots 64)) 5)).drew.heap[W1.heap.size + 1]? = some (.cells (ints .u8 (nots 64)) 5 (0, 0)) := blk_new (W1.alloc _) _ (by simp)
    have hn2 : ¬ F W1.heap.size := fun h => absurd (hD1.2.1 _ h) (by omega)
    have hn3 : ¬ F (W1.heap.size + 1) := fun h => absurd (hD1.2.1 _ h) (by omega)
    have hg2 : W.heap.size ≤ W1.heap.size := hB1.size
    have hg3 : W.heap.size ≤ W1.heap.size + 1 := by have := hB1.size; omega
    have hne : W1.heap.size ≠ W1.heap.size + 1 := by omega
    clear hD1 hB1
    generalize ((W1.alloc (.cells (ints .u8 (nots 64)) 5)).alloc (.cells (ints .u8 (nots 64)) 5)).drew = W2 at hB2 hD2 hb2 hb3 ⊢
    generalize W1.heap.size + 1 = g3 at hb3 hn3 hg3 hne ⊢
    generalize W1.heap.size = g2 at hb2 hn2 hg2 hne ⊢
    have hc2 := cell_blk hb2 0 (by decide)
    have hf2 := frozen_blk hb2 0
    have hb3' := blk_far (p := ⟨g2, 0, none⟩) hb3 (Ne.symm hne) (.int .u8 1)
    have hc3 := cell_blk hb3' 0 (by decide)
    have hf3 := frozen_blk hb3' 0
    have ha3 : ((W2.setCell ⟨g2, 0, none⟩ (.int .u8 1)).setCell ⟨g3, 0, none⟩ (.int .u8 2)).heap[g2]? = some (.cells (ints .u8 av) 5 (0, 0)) := blk_far (p := ⟨g3, 0, none⟩) (blk_set hb2 0 1) hne (.int .u8 2)
    have hbb3 : ((W2.setCell ⟨g2, 0, none⟩ (.int .u8 1)).setCell ⟨g3, 0, none⟩ (.int .u8 2)).heap[g3]? = some (.cells (ints .u8 bv) 5 (0, 0)) := blk_set hb3' 0 2
    have hD3 : DiskAt F ((W2.setCell ⟨g2, 0, none⟩ (.int .u8 1)).setCell ⟨g3, 0, none⟩ (.int .u8 2)) d (newDk 4) := hD2.keep (by simp) (fun b hb => (heap_set2 _ _ _ _ _ (fun (e : b = g3) => hn3 (by rw [← e]; exact hb))).trans (heap_set2 _ _ _ _ _ (fun (e : b = g2) => hn2 (by rw [← e]; exact hb))))
    have hB3 : Below W.heap.size W ((W2.setCell ⟨g2, 0, none⟩ (.int .u8 1)).setCell ⟨g3, 0, none⟩ (.int .u8 2)) := (hB2.setCell hg2 _).setCell hg3 _
    go_wp2_with fail
    generalize (W2.setCell ⟨g2, 0, none⟩ (.int .u8 1)).setCell ⟨g3, 0, none⟩ (.int .u8 2) = W3 at ha3 hbb3 hD3 hB3 ⊢
    clear hb2 hb3 hb3' hc2 hf2 hc3 hf3 hD2 hB2
    refine (write_any hD3 rfl (by decide) (by decide) 1 (by decide) (some ⟨g2, 0, none⟩) 64 av (bytes_of_blk av_sec ha3) (fun b off e => by injection e with e; injection e with e; rw [← e]; exact hn2)).mono ?_
    rintro e W4 ⟨rfl, hK4, F4, hG4, hD4⟩
    go_wp2_with fail
    have hb4 : W4.heap[g3]? = some (.cells (ints .u8 bv) 5 (0, 0)) := (hK4.block g3 (blk_lt hbb3) hn3).trans hbb3
    refine (write_any hD4 rfl (by decide) (by decide) 2 (by decide) (some ⟨g3, 0, none⟩) 64 bv (bytes_of_blk bv_sec hb4) (fun b off e => by
      injection e with e; injection e with e; rw [← e]
      intro hf
      rcases hG4 _ hf with hf | hf
      · exact hn3 hf
      · have := blk_lt hbb3; omega)).mono ?_
    rintro e W5 ⟨rfl, hK5, F5, hG5, hD5⟩
    go_wp2_with fail
    have hF4 : ∀ b, F4 b → W.heap.size ≤ b := fun b hb => by
      rcases hG4 b hb with h | h
      · exact hF b h
      · exact Nat.le_trans hB3.size h
    have hB4 := hB3.trans (hK4.below hF hB3.size)
    have hB5 := hB4.trans (hK5.below hF4 hB4.size)
    have hF5 : ∀ b, F5 b → W.heap.size ≤ b := fun b hb => by
      rcases hG5 b hb with h | h
      · exact hF4 b h
      · exact Nat.le_trans hB4.size h
    refine (restart_any hD5 ⟨2, -1, 0, false⟩ (by decide)).mono ?_
    rintro e W6 ⟨rfl, hK6, hD6⟩
    go_wp2_with fail
    have hB6 := hB5.trans (hK6.below hF5 hB5.size)
    refine (read_any hD6 rfl 1 (by decide)).mono ?_
    rintro e W7 ⟨hB7, A7, rfl, hx7⟩
    go_wp2_with fail
    have hD7 := hD6.below hB7
    refine (read_any hD7 rfl 2 (by decide)).mono ?_
    rintro e W8 ⟨hB8, A8, rfl, hx8⟩
    have hD8 := hD7.below hB8
    obtain ⟨p7, o7, rfl, hc7⟩ := cell0 (hx7.below hB8) (by decide)
    obtain ⟨p8, o8, rfl, hc8⟩ := cell0 hx8 (by decide)
    rw [show ((((restDk (writeDk (writeDk (newDk 4) 1 av) 2 bv) ⟨2, -1, 0, false⟩).C ((1 : Nat) : Int)).getD (secOf (restDk (writeDk (writeDk (newDk 4) 1 av) 2 bv) ⟨2, -1, 0, false⟩).L 1))[0]?).getD 0 = 0 from aw_1] at hc7
    rw [show ((((restDk (writeDk (writeDk (newDk 4) 1 av) 2 bv) ⟨2, -1, 0, false⟩).C ((2 : Nat) : Int)).getD (secOf (restDk (writeDk (writeDk (newDk 4) 1 av) 2 bv) ⟨2, -1, 0, false⟩).L 2))[0]?).getD 0 = 2 from aw_2] at hc8
    have hac := acts_any hD8
    rw [show (restDk (writeDk (writeDk (newDk 4) 1 av) 2 bv) ⟨2, -1, 0, false⟩).acts = 2 from aw_acts] at hac
    have hB9 : Below W.heap.size W W8 := (hB6.trans (hB7.mono hB6.size)).trans (hB8.mono (Nat.le_trans hB6.size hB7.size))
    clear hx7 hx8 hD3 hD4 hD5 hD6 hD7 hD8
    go_wp2_with fail
    refine hac.mono ?_
    rintro e W9 ⟨rfl, rfl⟩
    go_wp2_with fail
    go_ret
    exact ⟨rfl, hB9⟩
  · have hB2 : Below W.heap.size W ((W1.alloc (.cells (ints .u8 (nots 64)) 5)).alloc (.cells (ints .u8 (nots 64)) 5)).drew := (((hB1.alloc hB1.size _).alloc (by have := hB1.size; simp; omega) _)).drew
    have hD2 : DiskAt F ((W1.alloc (.cells (ints .u8 (nots 64)) 5)).alloc (.cells (ints .u8 (nots 64)) 5)).drew d (newDk 4) := hD1.below ((((Below.refl _ _).alloc (Nat.le_refl _) _).alloc (by simp) _).drew)
    have hb3 : ((W1.alloc (.cells (ints .u8 (nots 64)) 5)).alloc (.cells (ints .u8 (nots 64)) 5)).drew.heap[W1.heap.size]? = some (.cells (ints .u8 (nots 64)) 5 (0, 0)) := blk_alloc (heap_alloc_last W1 _) _
    have hb2 : ((W1.alloc (.cells (ints .u8 (nots 64)) 5)).alloc (.cells (ints .u8 (nots 64)) 5)).drew.heap[W1.heap.size + 1]? = some (.cells (ints .u8 (nots 64)) 5 (0, 0)) := blk_new (W1.alloc _) _ (by simp)
    have hn3 : ¬ F W1.heap.size := fun h => absurd (hD1.2.1 _ h) (by omega)
    have hn2 : ¬ F (W1.heap.size + 1) := fun h => absurd (hD1.2.1 _ h) (by omega)
    have hg3 : W.heap.size ≤ W1.heap.size := hB1.size
    have hg2 : W.heap.size ≤ W1.heap.size + 1 := by have := hB1.size; omega
    have hne : W1.heap.size + 1 ≠ W1.heap.size := by omega
    clear hD1 hB1
    generalize ((W1.alloc (.cells (ints .u8 (nots 64)) 5)).alloc (.cells (ints .u8 (nots 64)) 5)).drew = W2 at hB2 hD2 hb2 hb3 ⊢
    generalize W1.heap.size + 1 = g2 at hb2 hn2 hg2 hne ⊢
    generalize W1.heap.size = g3 at hb3 hn3 hg3 hne ⊢
    have hc2 := cell_blk hb2 0 (by decide)
    have hf2 := frozen_blk hb2 0
    have hb3' := blk_far (p := ⟨g2, 0, none⟩) hb3 (Ne.symm hne) (.int .u8 1)
    have hc3 := cell_blk hb3' 0 (by decide)
    have hf3 := frozen_blk hb3' 0
    have ha3 : ((W2.setCell ⟨g2, 0, none⟩ (.int .u8 1)).setCell ⟨g3, 0, none⟩ (.int .u8 2)).heap[g2]? = some (.cells (ints .u8 av) 5 (0, 0)) := blk_far (p := ⟨g3, 0, none⟩) (blk_set hb2 0 1) hne (.int .u8 2)
    have hbb3 : ((W2.setCell ⟨g2, 0, none⟩ (.int .u8 1)).setCell ⟨g3, 0, none⟩ (.int .u8 2)).heap[g3]? = some (.cells (ints .u8 bv) 5 (0, 0)) := blk_set hb3' 0 2
    have hD3 : DiskAt F ((W2.setCell ⟨g2, 0, none⟩ (.int .u8 1)).setCell ⟨g3, 0, none⟩ (.int .u8 2)) d (newDk 4) := hD2.keep (by simp) (fun b hb => (heap_set2 _ _ _ _ _ (fun (e : b = g3) => hn3 (by rw [← e]; exact hb))).trans (heap_set2 _ _ _ _ _ (fun (e : b = g2) => hn2 (by rw [← e]; exact hb))))
    have hB3 : Below W.heap.size W ((W2.setCell ⟨g2, 0, none⟩ (.int .u8 1)).setCell ⟨g3, 0, none⟩ (.int .u8 2)) := (hB2.setCell hg2 _).setCell hg3 _
    go_wp2_with fail
    generalize (W2.setCell ⟨g2, 0, none⟩ (.int .u8 1)).setCell ⟨g3, 0, none⟩ (.int .u8 2) = W3 at ha3 hbb3 hD3 hB3 ⊢
    clear hb2 hb3 hb3' hc2 hf2 hc3 hf3 hD2 hB2
    refine (write_any hD3 rfl (by decide) (by decide) 1 (by decide) (some ⟨g2, 0, none⟩) 64 av (bytes_of_blk av_sec ha3) (fun b off e => by injection e with e; injection e with e; rw [← e]; exact hn2)).mono ?_
    rintro e W4 ⟨rfl, hK4, F4, hG4, hD4⟩
    go_wp2_with fail
    have hb4 : W4.heap[g3]? = some (.cells (ints .u8 bv) 5 (0, 0)) := (hK4.block g3 (blk_lt hbb3) hn3).trans hbb3
    refine (write_any hD4 rfl (by decide) (by decide) 2 (by decide) (some ⟨g3, 0, none⟩) 64 bv (bytes_of_blk bv_sec hb4) (fun b off e => by
      injection e with e; injection e with e; rw [← e]
      intro hf
      rcases hG4 _ hf with hf | hf
      · exact hn3 hf
      · have := blk_lt hbb3; omega)).mono ?_
    rintro e W5 ⟨rfl, hK5, F5, hG5, hD5⟩
    go_wp2_with fail
    have hF4 : ∀ b, F4 b → W.heap.size ≤ b := fun b hb => by
      rcases hG4 b hb with h | h
      · exact hF b h
      · exact Nat.le_trans hB3.size h
    have hB4 := hB3.trans (hK4.below hF hB3.size)
    have hB5 := hB4.trans (hK5.below hF4 hB4.size)
    have hF5 : ∀ b, F5 b → W.heap.size ≤ b := fun b hb => by
      rcases hG5 b hb with h | h
      · exact hF4 b h
      · exact Nat.le_trans hB4.size h
    refine (restart_any hD5 ⟨2, -1, 0, false⟩ (by decide)).mono ?_
    rintro e W6 ⟨rfl, hK6, hD6⟩
    go_wp2_with fail
    have hB6 := hB5.trans (hK6.below hF5 hB5.size)
    refine (read_any hD6 rfl 1 (by decide)).mono ?_
    rintro e W7 ⟨hB7, A7, rfl, hx7⟩
    go_wp2_with fail
    have hD7 := hD6.below hB7
    refine (read_any hD7 rfl 2 (by decide)).mono ?_
    rintro e W8 ⟨hB8, A8, rfl, hx8⟩
    have hD8 := hD7.below hB8
    obtain ⟨p7, o7, rfl, hc7⟩ := cell0 (hx7.below hB8) (by decide)
    obtain ⟨p8, o8, rfl, hc8⟩ := cell0 hx8 (by decide)
    rw [show ((((restDk (writeDk (writeDk (newDk 4) 1 av) 2 bv) ⟨2, -1, 0, false⟩).C ((1 : Nat) : Int)).getD (secOf (restDk (writeDk (writeDk (newDk 4) 1 av) 2 bv) ⟨2, -1, 0, false⟩).L 1))[0]?).getD 0 = 0 from aw_1] at hc7
    rw [show ((((restDk (writeDk (writeDk (newDk 4) 1 av) 2 bv) ⟨2, -1, 0, false⟩).C ((2 : Nat) : Int)).getD (secOf (restDk (writeDk (writeDk (newDk 4) 1 av) 2 bv) ⟨2, -1, 0, false⟩).L 2))[0]?).getD 0 = 2 from aw_2] at hc8
    have hac := acts_any hD8
    rw [show (restDk (writeDk (writeDk (newDk 4) 1 av) 2 bv) ⟨2, -1, 0, false⟩).acts = 2 from aw_acts] at hac
    have hB9 : Below W.heap.size W W8 := (hB6.trans (hB7.mono hB6.size)).trans (hB8.mono (Nat.le_trans hB6.size hB7.size))
    clear hx7 hx8 hD3 hD4 hD5 hD6 hD7 hD8
    go_wp2_with fail
    refine hac.mono ?_
    rintro e W9 ⟨rfl, rfl⟩
    go_wp2_with fail
    go_ret
    exact ⟨rfl, hB9⟩
end Go.Proofs.Ytpllifppjlakpaa.Dk
