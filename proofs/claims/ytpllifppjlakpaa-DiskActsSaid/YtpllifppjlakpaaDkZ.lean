/-
  disk: the reference's New.
-/
import Derived.Test.YtpllifppjlakpaaDkY
namespace Go.Proofs.Ytpllifppjlakpaa.Dk
open Go.RowKit Go.Shelf Go.Proofs.Ytpllifppjlakpaa
attribute [local go_sem] Oper.semAt_some
set_option linter.unusedVariables false
set_option linter.unusedSimpArgs false
/-- A fresh disk of the reference: nothing waits, each sector in a block of its own. -/
structure NewIn (B : Nat) (W : World) (d n : Nat) (f : Nat → List Int) (vS : Value) (bl : List Nat) : Prop where
  head : W.heap[d]? = some (.cells #[vS, .slice none 0 0, .int .i64 (-1), .bool false, .int .i64 0] 74 (0, 0))
  hd : B ≤ d
  len : bl.length = n
  row : W.ownsRow B 22 1 vS n (bl.map fun b => hval (b, 64))
  secs : ∀ j (hj : j < bl.length), W.heap[bl[j]]? = some (.cells (ints .u8 (f j)) 5 (0, 0)) ∧ B ≤ bl[j]
  one : ∀ j k (hj : j < bl.length) (hk : k < bl.length), bl[j] = bl[k] → j = k
theorem ownsRow_zero {W : World} {v : Value} {n : Nat} {xs : List Value} {b0 e sz : Nat} (h : W.ownsRow b0 e sz v n xs) : W.ownsRow 0 e sz v n xs := by
  refine ⟨h.1, ?_⟩
  rcases h.2 with h2 | ⟨g, cap, cur, rfl, hg, r⟩
  · exact .inl h2
  · exact .inr ⟨g, cap, cur, rfl, Nat.zero_le _, r⟩
theorem NewIn.ref {B : Nat} {W : World} {d n : Nat} {f : Nat → List Int} {vS : Value} {bl : List Nat} (h : NewIn B W d n f vS bl) {s : Dk} (hok : DkOk s) (hn : s.n = n) (hf : ∀ j, j < n → secOf s.L j = f j) (hQ : s.Q = []) (ha : s.armed = -1) (hc : s.acts = 0) (ho : s.off = false) :
    RefAt (fun b => B ≤ b ∧ b < W.heap.size) W d s := by
  subst hn
  have hlen := h.len
  have hsec : ∀ j, j < s.n → isSec (secOf s.L j) := fun j hj => ⟨secOf_length hok.len hj, secOf_bytes hok.bytes j⟩
  refine ⟨hok, fun b hb => hb.2, ⟨h.hd, blk_lt h.head⟩, vS, .slice none 0 0, bl.map (fun b => (b, 64)), [], ?_, ⟨fun k hk => h.row.lt k hk, fun k hk => (by simp [Value.ownBlock] at hk), ?_, by rw [List.length_map]; exact hlen, fun j hj => ?_, by rw [hQ]; exact World.ownsRow_nil _ _ _ _, by rw [hQ]; rfl, fun j hj => absurd hj (Nat.not_lt_zero j)⟩⟩
  · rw [ha, ho, hc]; exact h.head
  · rw [List.map_map]
    exact ownsRow_zero h.row
  · rw [List.length_map] at hj
    rw [List.getElem_map]
    have hjn : j < s.n := by omega
    obtain ⟨h1, h2⟩ := h.secs j hj
    rw [← hf j hjn] at h1
    refine ⟨⟨hsec j hjn, ⟨Nat.le_refl _, (by decide : (64 : Nat) ≤ 9223372036854775807)⟩, _, h1, fun i hi => ?_⟩, h2, blk_lt h1⟩
    rw [ints_get, List.getElem?_eq_getElem (by rw [(hsec j hjn).1]; exact hi)]
    rfl
theorem run_build_one (w : World) (u : Value) (h1 : ∃ A n c, u = .slice A n c) : (Instr.buildSlice 39 1 #[(0, u)]).run Try.prog w = .ok (.slice (some ⟨w.heap.size, 0, none⟩) 1 1) (w.alloc (.cells #[u] 22)) := by
  obtain ⟨A, n, c, rfl⟩ := h1
  obtain ⟨i0, hi, hz0, hz1, hz2⟩ := info_parts info22
  refine run_buildSlice w 39 22 1 _ _ i0 _ Try.underlying39 hi hz0 (by rw [hz1]; decide) (by rw [hz1]; decide) ?_
  rw [hz1]
  exact fill_all #[_] _ rfl (by simp)
theorem rnew_step {B : Nat} {W : World} {d n : Nat} {vS : Value} {bl : List Nat} (h : NewIn B W d n (fun _ => nots 64) vS bl) (hB : B ≤ W.heap.size) (hn : n < 2000) :
    ∃ A c w', (Builtin.append_ #[39, 39] 39 #[vS, .slice (some ⟨(W.alloc (.cells (ints .u8 (nots 64)) 5)).heap.size, 0, none⟩) 1 1]).run Try.prog ((W.alloc (.cells (ints .u8 (nots 64)) 5)).alloc (.cells #[.slice (some ⟨W.heap.size, 0, none⟩) 64 64] 22)) = .ok (.slice A (n + 1) c) w' ∧
      w'.cell? ⟨d, 0, none⟩ = some vS ∧ w'.frozen? ⟨d, 0, none⟩ = false ∧
      NewIn B (w'.setCell ⟨d, 0, none⟩ (.slice A (n + 1) c)) d (n + 1) (fun _ => nots 64) (.slice A (n + 1) c) (bl ++ [W.heap.size]) ∧ Below B W (w'.setCell ⟨d, 0, none⟩ (.slice A (n + 1) c)) := by
  obtain ⟨i0, hi, hz0, hz1, hz2⟩ := info_parts info22
  have hs1 : (W.alloc (.cells (ints .u8 (nots 64)) 5)).heap.size = W.heap.size + 1 := by simp
  have hs2 : ((W.alloc (.cells (ints .u8 (nots 64)) 5)).alloc (.cells #[.slice (some ⟨W.heap.size, 0, none⟩) 64 64] 22)).heap.size = W.heap.size + 2 := by simp
  have hk2 : ∀ b, b < W.heap.size → ((W.alloc (.cells (ints .u8 (nots 64)) 5)).alloc (.cells #[.slice (some ⟨W.heap.size, 0, none⟩) 64 64] 22)).heap[b]? = W.heap[b]? := fun b hb => (Below.heap_alloc _ _ _ (by omega)).trans (Below.heap_alloc _ _ _ hb)
  have hnew : ((W.alloc (.cells (ints .u8 (nots 64)) 5)).alloc (.cells #[.slice (some ⟨W.heap.size, 0, none⟩) 64 64] 22)).heap[W.heap.size]? = some (.cells (ints .u8 (nots 64)) 5 (0, 0)) := blk_alloc (heap_alloc_last W _) _
  have hB2 : Below B W ((W.alloc (.cells (ints .u8 (nots 64)) 5)).alloc (.cells #[.slice (some ⟨W.heap.size, 0, none⟩) 64 64] 22)) := ((Below.refl _ _).alloc hB _).alloc (by omega) _
  obtain ⟨v', w', hrun, hown, hgrow, -, hblk⟩ := run_append_own_at (P := Try.prog) ((W.alloc (.cells (ints .u8 (nots 64)) 5)).alloc (.cells #[.slice (some ⟨W.heap.size, 0, none⟩) 64 64] 22)) B 39 39 22 i0 (.slice none 0 0) 1 24 Try.underlying39 hi hz0 hz1 hz2 rfl (by decide) vS n _ ((h.row.alloc _).alloc _) ⟨(W.alloc (.cells (ints .u8 (nots 64)) 5)).heap.size, 0, none⟩ 1 1 [.slice (some ⟨W.heap.size, 0, none⟩) 64 64] rfl
    (cell_one_new _ _ _) (fun u hu => by obtain rfl := List.mem_singleton.1 hu; rfl) (by simp only [maxLen]; omega) (by omega) (by omega)
  obtain ⟨A, c, rfl, -⟩ := slice_form hown
  have hne : some d ≠ vS.ownBlock := fun e => by
    obtain ⟨cl, hh⟩ := ownsRow_type h.row e.symm
    exact absurd (blk_type h.head hh) (by decide)
  have hd0 := blk_lt h.head
  have hd1 : w'.heap[d]? = _ := (hgrow.block d (by omega) hne).trans ((hk2 d hd0).trans h.head)
  have hvt : ∀ (b : Nat) (cs : Array Value) (t : TypeId), ((W.alloc (.cells (ints .u8 (nots 64)) 5)).alloc (.cells #[.slice (some ⟨W.heap.size, 0, none⟩) 64 64] 22)).heap[b]? = some (.cells cs t (0, 0)) → t ≠ 22 → some b ≠ vS.ownBlock := fun b cs t hb ht e => by
    obtain ⟨cl, hh⟩ := ownsRow_type ((h.row.alloc _).alloc _) e.symm
    exact ht (blk_type hb hh)
  have h5 : ∀ (b : Nat) (cs : Array Value), ((W.alloc (.cells (ints .u8 (nots 64)) 5)).alloc (.cells #[.slice (some ⟨W.heap.size, 0, none⟩) 64 64] 22)).heap[b]? = some (.cells cs 5 (0, 0)) → (w'.setCell ⟨d, 0, none⟩ (.slice A (n + 1) c)).heap[b]? = some (.cells cs 5 (0, 0)) := fun b cs hb => by
    have hbd : b ≠ d := fun e => by
      subst e
      have := (hk2 b hd0).trans h.head
      exact absurd (blk_type hb this) (by decide)
    exact (heap_set2 _ _ _ _ _ hbd).trans ((hgrow.block b (blk_lt hb) (hvt b _ _ hb (by decide))).trans hb)
  refine ⟨A, c, w', hrun, (five hd1).1, frozen_blk hd1 0, ⟨heap_setCell_same w' d 0 _ 74 _ hd1, h.hd, by rw [List.length_append, h.len]; rfl, ?_, fun j hj => ?_, fun j k hj hk e => ?_⟩, ?_⟩
  · rw [List.map_append]
    refine ownsRow_same hown (fun b hb _ => heap_set2 _ _ _ _ _ (fun e => ?_))
    subst e
    obtain ⟨cl, hh⟩ := ownsRow_type hown hb
    exact absurd (blk_type hd1 hh) (by decide)
  · by_cases hjl : j < bl.length
    · rw [List.getElem_append_left hjl]
      obtain ⟨h1, h2⟩ := h.secs j hjl
      exact ⟨h5 _ _ ((hk2 _ (blk_lt h1)).trans h1), h2⟩
    · rw [List.getElem_append_right (by omega)]
      simp only [List.getElem_singleton]
      exact ⟨h5 _ _ hnew, hB⟩
  · have hlt : ∀ i (hi : i < bl.length), bl[i] < W.heap.size := fun i hi => blk_lt (h.secs i hi).1
    rw [List.length_append] at hj hk
    simp only [List.length_singleton] at hj hk
    by_cases hjl : j < bl.length <;> by_cases hkl : k < bl.length
    · rw [List.getElem_append_left hjl, List.getElem_append_left hkl] at e
      exact h.one j k hjl hkl e
    · rw [List.getElem_append_left hjl, List.getElem_append_right (by omega)] at e
      simp only [List.getElem_singleton] at e
      have := hlt j hjl
      omega
    · rw [List.getElem_append_left hkl, List.getElem_append_right (by omega)] at e
      simp only [List.getElem_singleton] at e
      have := hlt k hkl
      omega
    · omega
  · refine Below.setCell (hB2.trans ⟨hgrow.os, hgrow.tape, hgrow.output, hgrow.size, fun k hk => ?_⟩) h.hd _
    exact hgrow.block k (by omega) (fun e => by have := (h.row.lt k e.symm).1; omega)
theorem rnew_nil (W : World) : NewIn W.heap.size (W.alloc (.cells #[.slice none 0 0, .slice none 0 0, .int .i64 (-1), .bool false, .int .i64 0] 74)) W.heap.size 0 (fun _ => nots 64) (.slice none 0 0) [] :=
  ⟨heap_alloc_last W _, Nat.le_refl _, rfl, World.ownsRow_nil _ _ _ _, fun j hj => absurd hj (Nat.not_lt_zero j), fun j k hj => absurd hj (Nat.not_lt_zero j)⟩
end Go.Proofs.Ytpllifppjlakpaa.Dk
