/-
  disk: the queue: put, clear.
-/
import Derived.Test.YtpllifppjlakpaaDkR
namespace Go.Proofs.Ytpllifppjlakpaa.Dk
open Go.RowKit Go.Shelf Go.Proofs.Ytpllifppjlakpaa
attribute [local go_sem] Oper.semAt_some
set_option linter.unusedVariables false
set_option linter.unusedSimpArgs false
theorem info68 : (Try.prog.info? 68).map (fun i => (i.zero, i.size, i.bytes)) = some (some (.agg (#[.int .i64 0] ++ ints .u8 (nots 64))), 65, 72) := by kernel_rfl
theorem under68 : ∃ f, Try.prog.underlying 68 = some (.struct f) := by
  cases h : Try.prog.underlying 68 with
  | none =>
    have : (Try.prog.underlying 68).isSome = true := by kernel_rfl
    rw [h] at this
    cases this
  | some d =>
    have : (Try.prog.underlying 68).map (fun d => (match d with | .struct _ => true | _ => false)) = some true := by kernel_rfl
    rw [h] at this
    cases d <;> first | exact ⟨_, rfl⟩ | (exfalso; simp at this)
theorem size68 {n : Nat} (h : n = 65) : (Try.prog.info? 68).map (·.size) = some n := by subst h; kernel_rfl
theorem fill_all {n : Nat} (cells zero : Array Value) (hs : cells.size = n) (hz : zero.size = n) :
    Instr.fill (fun i => some (i * n, n)) zero [(0, .agg cells)] = some cells := by
  have hc : (Value.agg cells).cells = cells := rfl
  rw [Instr.fill]
  simp only [hc, Nat.zero_mul, Nat.zero_add, hs, hz, ne_eq, not_true, decide_false, Bool.false_or, Nat.lt_irrefl, Bool.false_eq_true, if_false, gt_iff_lt]
  rw [Instr.fill]
  congr 1
  have key : ∀ (l : List (Value × Nat)) (z : Array Value), (∀ p ∈ l, p.2 < z.size) → (l.map (·.2)).Nodup → (l.foldl (fun cs (c, j) => cs.setIfInBounds j c) z).size = z.size ∧ (∀ p ∈ l, (l.foldl (fun cs (c, j) => cs.setIfInBounds j c) z)[p.2]? = some p.1) ∧ (∀ i, i ∉ l.map (·.2) → (l.foldl (fun cs (c, j) => cs.setIfInBounds j c) z)[i]? = z[i]?) := by
    intro l
    induction l with
    | nil => intro z _ _; exact ⟨rfl, fun p hp => absurd hp (List.not_mem_nil), fun _ _ => rfl⟩
    | cons q l ih =>
      intro z hz hn
      rw [List.map_cons, List.nodup_cons] at hn
      obtain ⟨h1, h2, h3⟩ := ih (z.setIfInBounds q.2 q.1) (fun p hp => by rw [Array.size_setIfInBounds]; exact hz p (List.mem_cons_of_mem _ hp)) hn.2
      rw [List.foldl_cons]
      refine ⟨by rw [h1, Array.size_setIfInBounds], fun p hp => ?_, fun i hi => ?_⟩
      · rcases List.mem_cons.1 hp with rfl | hp
        · rw [h3 _ hn.1, Array.getElem?_setIfInBounds, if_pos rfl, if_pos (hz _ List.mem_cons_self)]
        · exact h2 p hp
      · rw [List.map_cons, List.mem_cons, not_or] at hi
        rw [h3 i hi.2, Array.getElem?_setIfInBounds, if_neg (fun e => hi.1 e.symm)]
  have hl : ∀ i v, (v, i) ∈ cells.zipIdx.toList → cells[i]? = some v := fun i v h => by
    have := Array.mem_toList_iff.1 h
    rw [Array.mem_zipIdx_iff_getElem?] at this
    exact this
  have hmem : ∀ i (hi : i < cells.size), (cells[i], i) ∈ cells.zipIdx.toList := fun i hi => Array.mem_toList_iff.2 (by rw [Array.mem_zipIdx_iff_getElem?]; exact Array.getElem?_eq_getElem hi)
  obtain ⟨h1, h2, h3⟩ := key cells.zipIdx.toList zero (fun p hp => by
    have := hl p.2 p.1 hp
    have := (Array.getElem?_eq_some_iff.1 this).1
    omega) (by
      rw [Array.toList_zipIdx, show (cells.toList.zipIdx).map (fun x => x.2) = List.range' 0 cells.toList.length from by rw [← List.zipIdx_map_snd 0]]
      exact List.nodup_range')
  rw [← Array.foldl_toList]
  apply Array.ext_getElem?
  intro i
  by_cases hi : i < cells.size
  · rw [h2 _ (hmem i hi), Array.getElem?_eq_getElem hi]
  · rw [Array.getElem?_eq_none (xs := cells) (by omega)]
    exact Array.getElem?_eq_none (Nat.le_trans (Nat.le_of_eq h1) (by omega))
theorem run_build_wait (w : World) (cells : Array Value) (hs : cells.size = 65) : (Instr.buildSlice 54 1 #[(0, .agg cells)]).run Try.prog w = .ok (.slice (some ⟨w.heap.size, 0, none⟩) 1 1) (w.alloc (.cells cells 68)) := by
  obtain ⟨i0, hi, hz0, hz1, hz2⟩ := info_parts info68
  refine run_buildSlice w 54 68 1 _ cells i0 _ Try.underlying54 hi hz0 (by rw [hz1]; decide) (by rw [hz1]; decide) ?_
  rw [hz1]
  exact fill_all cells _ hs (by simp)
set_option maxHeartbeats 1000000 in
theorem put_any (W : World) (d : Nat) (v0 v1 vQ v3 v4 v5 : Value) (n : Nat) (xs cells : List Value) (hd : W.heap[d]? = some (.cells #[v0, v1, vQ, v3, v4, v5] 58 (0, 0))) (hQ : W.ownsRow 0 68 65 vQ n xs) (hs : cells.length = 65) (h1 : ∀ u ∈ cells, u.oneCell' = true) (hn : n < 1954687338268) :
    Calls Try.prog 28 #[.pointer (some ⟨d, 2, none⟩), .agg cells.toArray] W fun e W' => e = .returned (.tuple #[]) ∧ ∃ vQ', W'.heap[d]? = some (.cells #[v0, v1, vQ', v3, v4, v5] 58 (0, 0)) ∧ W'.ownsRow 0 68 65 vQ' (n + 1) (xs ++ cells) ∧
      (vQ'.ownBlock = vQ.ownBlock ∨ ∃ g, vQ'.ownBlock = some g ∧ W.heap.size ≤ g) ∧ Keeps (fun b => b = d ∨ vQ.ownBlock = some b) W W' := by
  have hc : ∀ o, (W.alloc o).cell? ⟨d, 2, none⟩ = some vQ := fun o => (six (blk_alloc hd o)).2.2.1
  have hcd2 : ∀ o o', ((W.alloc o).drew.alloc o').cell? ⟨d, 2, none⟩ = some vQ := fun o o' => (six (blk_alloc (w := (W.alloc o).drew) (blk_alloc hd o) o')).2.2.1
  have hcd : ∀ o, (W.alloc o).drew.cell? ⟨d, 2, none⟩ = some vQ := hc
  have hss : cells.toArray.size = 65 := by simpa using hs
  obtain ⟨f68, hu68⟩ := under68
  obtain ⟨i0, hi, hz0, hz1, hz2⟩ := info_parts info68
  have hld : ∀ w : World, w.heap[W.heap.size]? = some (.cells cells.toArray 68 (0, 0)) → (Instr.loadAt 68 (.pointer (some ⟨W.heap.size, 0, none⟩))).run Try.prog w = .ok (.agg cells.toArray) w := fun w hw => by
    simp only [Instr.loadAt, Instr.sureAddr, Sem.run_bind, Sem.run_pure, Result.andThen]
    exact run_loadVar_row w W.heap.size 68 68 cells.toArray (0, 0) _ hw hu68 rfl (size68 hss)
  have hcl : ∀ w : World, w.cell? ⟨d, 2, none⟩ = some vQ → (Instr.loadAt 54 (.pointer (some ⟨d, 2, none⟩))).run Try.prog w = .ok vQ w := fun w hw => by
    go_simp
  have hQ1 : ((W.alloc (.cells cells.toArray 68)).drew.alloc (.cells cells.toArray 68)).ownsRow 0 68 65 vQ n xs := World.ownsRow.alloc (World.ownsRow.drew (hQ.alloc _)) _
  have hd1 : ((W.alloc (.cells cells.toArray 68)).drew.alloc (.cells cells.toArray 68)).heap[d]? = some (.cells #[v0, v1, vQ, v3, v4, v5] 58 (0, 0)) := blk_alloc (w := (W.alloc (.cells cells.toArray 68)).drew) (blk_alloc hd _) _
  have hk1 : Below W.heap.size W ((W.alloc (.cells cells.toArray 68)).drew.alloc (.cells cells.toArray 68)) := (((Below.refl _ _).alloc (Nat.le_refl _) _).drew).alloc (by simp) _
  have hb1 : ((W.alloc (.cells cells.toArray 68)).drew.alloc (.cells cells.toArray 68)).heap[((W.alloc (.cells cells.toArray 68)).drew).heap.size]? = some (.cells cells.toArray 68 (0, 0)) := heap_alloc_last _ _
  obtain ⟨vQ', w2, hrun, hown, hgrow, -, hblk⟩ := run_append_own_at (P := Try.prog) ((W.alloc (.cells cells.toArray 68)).drew.alloc (.cells cells.toArray 68)) 0 54 54 68 i0 _ 65 72 Try.underlying54 hi hz0 hz1 hz2
    (by show (#[Value.int .i64 0] ++ ints .u8 (nots 64)).size = 65; rw [Array.size_append, ints_size, nots_sec.1]; rfl) (by decide) vQ n xs hQ1 ⟨((W.alloc (.cells cells.toArray 68)).drew).heap.size, 0, none⟩ 1 1 cells (by rw [hs])
    (fun j u hj => by rw [Addr.add_mid, Nat.zero_add, cell_of_row _ _ j _ _ _ hb1]; simpa using hj) h1 (by simp only [maxLen]; omega) (by omega) (Nat.zero_le _)
  have hne : some d ≠ vQ.ownBlock := fun e => by
    obtain ⟨cl, hh⟩ := ownsRow_type hQ e.symm
    exact absurd (blk_type hd hh) (by decide)
  have hd2 : w2.heap[d]? = some (.cells #[v0, v1, vQ, v3, v4, v5] 58 (0, 0)) := (hgrow.block d (blk_lt hd1) hne).trans hd1
  have hf2 : w2.frozen? ⟨d, 2, none⟩ = false := frozen_blk hd2 2
  have hc2 : w2.cell? ⟨d, 2, none⟩ = some vQ := (six hd2).2.2.1
  obtain ⟨Ax, nx, cx, rfl⟩ : ∃ A n c, vQ' = .slice A n c := by
    rcases hown.2 with ⟨rfl, _⟩ | ⟨g, cap, cur, rfl, _⟩ <;> exact ⟨_, _, _, rfl⟩
  have fin : ∃ vQ'', (w2.setCell ⟨d, 2, none⟩ (.slice Ax nx cx)).heap[d]? = some (.cells #[v0, v1, vQ'', v3, v4, v5] 58 (0, 0)) ∧ (w2.setCell ⟨d, 2, none⟩ (.slice Ax nx cx)).ownsRow 0 68 65 vQ'' (n + 1) (xs ++ cells) ∧
      (vQ''.ownBlock = vQ.ownBlock ∨ ∃ g, vQ''.ownBlock = some g ∧ W.heap.size ≤ g) ∧ Keeps (fun b => b = d ∨ vQ.ownBlock = some b) W (w2.setCell ⟨d, 2, none⟩ (.slice Ax nx cx)) := by
    refine ⟨.slice Ax nx cx, heap_setCell_same w2 d 2 _ 58 _ hd2, ownsRow_same hown (fun k hk _ => heap_set2 _ _ _ _ _ (fun e => ?_)), ?_, ?_⟩
    · subst e
      obtain ⟨cl, hh⟩ := ownsRow_type hown hk
      exact absurd (blk_type hd2 hh) (by decide)
    · rcases hblk with e | e
      · exact .inl e
      · exact .inr ⟨_, e, by simp; omega⟩
    · refine Keeps.set ?_ (.inl rfl) 2 _
      exact ⟨hgrow.os.trans hk1.os, hgrow.tape.trans hk1.tape, hgrow.output.trans hk1.output, Nat.le_trans hk1.size hgrow.size, fun k hk hF => (hgrow.block k (Nat.lt_of_lt_of_le hk hk1.size) (fun e => hF (.inr e.symm))).trans (hk1.block k hk)⟩
  clear hk1 hown hgrow hblk hQ h1 hQ1 hd1 hb1
  go_enter Try.func28, Try.ntmps28
  go_wp2_with fail
  refine wp_region_any (by kernel_rfl) ?_
  try (change wpAny _ _ _ _ _ _ _ (World.drew _))
  refine wpAny_take (i := 0) (v := ?_) rfl (by kernel_rfl) (by kernel_rfl) (by kernel_rfl) (fun _ _ _ h => h) (Or.inl ⟨by rfl, ?_⟩) ?_
  rotate_left 1
  · intro w
    go_simp
    try rfl
  try simp only [Act.put, List.getElem_toArray, List.getElem_cons_zero, List.getElem_cons_succ, List.setIfInBounds_toArray, List.set_cons_succ, List.set_cons_zero]
  refine wpAny_take (i := 1) (v := ?_) rfl (by kernel_rfl) (by kernel_rfl) (by kernel_rfl) (fun _ _ _ h => h) (Or.inl ⟨by rfl, ?_⟩) ?_
  rotate_left 1
  · intro w
    go_simp
    try rfl
  try simp only [Act.put, List.getElem_toArray, List.getElem_cons_zero, List.getElem_cons_succ, List.setIfInBounds_toArray, List.set_cons_succ, List.set_cons_zero]
  refine wpAny_take (i := 2) (v := ?_) rfl (by kernel_rfl) (by kernel_rfl) (by kernel_rfl) (fun _ _ _ h => h) (Or.inl ⟨by rfl, ?_⟩) ?_
  rotate_left 1
  · intro w
    go_simp
    try rfl
  try simp only [Act.put, List.getElem_toArray, List.getElem_cons_zero, List.getElem_cons_succ, List.setIfInBounds_toArray, List.set_cons_succ, List.set_cons_zero]
  refine wpAny_take (i := 3) (v := ?_) rfl (by kernel_rfl) (by kernel_rfl) (by kernel_rfl) (fun _ _ _ h => h) (Or.inl ⟨by rfl, ?_⟩) ?_
  rotate_left 1
  · intro w
    go_simp
    try rfl
  try simp only [Act.put, List.getElem_toArray, List.getElem_cons_zero, List.getElem_cons_succ, List.setIfInBounds_toArray, List.set_cons_succ, List.set_cons_zero]
  refine wpAny_ready (rs := [4, 5]) (by kernel_rfl) (by simp) ?_
  refine AllReady.cons rfl (fun K hK => ?_) (AllReady.cons rfl (fun K hK => ?_) AllReady.nil)
  · refine any_runs (by rfl) (runs_load rfl rfl (hcl _ (hcd _))) ?_
    refine hK _ _ ?_
    clear hK K
    try simp only [Act.put, List.getElem_toArray, List.getElem_cons_zero, List.getElem_cons_succ, List.setIfInBounds_toArray, List.set_cons_succ, List.set_cons_zero]
    refine wpAny_ready (rs := [5]) (by kernel_rfl) (by simp) ?_
    refine AllReady.cons rfl (fun K hK => ?_) AllReady.nil
    refine any_runs (by rfl) (runs_load rfl rfl (hld _ (heap_alloc_last W _))) ?_
    refine hK _ _ ?_
    clear hK K
    try simp only [Act.put, List.getElem_toArray, List.getElem_cons_zero, List.getElem_cons_succ, List.setIfInBounds_toArray, List.set_cons_succ, List.set_cons_zero]
    refine wpAny_ready (rs := [6]) (by kernel_rfl) (by simp) ?_
    refine AllReady.cons rfl (fun K hK => ?_) AllReady.nil
    refine any_runs (by rfl) (runs_buildSlice (ps := #[(0, .agg cells.toArray)]) rfl (by simp only [List.map_toArray, List.map_cons, List.map_nil]; rfl) (run_build_wait _ _ hss)) ?_
    refine hK _ _ ?_
    clear hK K
    try simp only [Act.put, List.getElem_toArray, List.getElem_cons_zero, List.getElem_cons_succ, List.setIfInBounds_toArray, List.set_cons_succ, List.set_cons_zero]
    refine wpAny_ready (rs := [7]) (by kernel_rfl) (by simp) ?_
    refine AllReady.cons rfl (fun K hK => ?_) AllReady.nil
    refine any_runs (by rfl) (runs_append rfl rfl rfl hrun) ?_
    refine hK _ _ ?_
    clear hK K
    try simp only [Act.put, List.getElem_toArray, List.getElem_cons_zero, List.getElem_cons_succ, List.setIfInBounds_toArray, List.set_cons_succ, List.set_cons_zero]
    refine wpAny_take (i := 8) (v := ?_) rfl (by kernel_rfl) (by kernel_rfl) (by kernel_rfl) (fun _ _ _ h => h) (Or.inl ⟨by rfl, ?_⟩) ?_
    rotate_left 1
    · intro w
      go_simp
      try rfl
    try simp only [Act.put, List.getElem_toArray, List.getElem_cons_zero, List.getElem_cons_succ, List.setIfInBounds_toArray, List.set_cons_succ, List.set_cons_zero]
    refine wpAny_take (i := 9) (v := ?_) rfl (by kernel_rfl) (by kernel_rfl) (by kernel_rfl) (fun _ _ _ h => h) (Or.inl ⟨by rfl, ?_⟩) ?_
    rotate_left 1
    · intro w
      go_simp
      try rfl
    try simp only [Act.put, List.getElem_toArray, List.getElem_cons_zero, List.getElem_cons_succ, List.setIfInBounds_toArray, List.set_cons_succ, List.set_cons_zero]
    refine wpAny_ready (rs := [10]) (by kernel_rfl) (by simp) ?_
    refine AllReady.cons rfl (fun K hK => ?_) AllReady.nil
    go_simp
    refine hK _ _ ?_
    clear hK K
    try simp only [Act.put, List.getElem_toArray, List.getElem_cons_zero, List.getElem_cons_succ, List.setIfInBounds_toArray, List.set_cons_succ, List.set_cons_zero]
    refine wpAny_done (by kernel_rfl) ?_ _
    go_wp2_with fail
    go_end0
    exact ⟨rfl, fin⟩
  · refine any_runs (by rfl) (runs_load rfl rfl (hld _ (heap_alloc_last W _))) ?_
    refine hK _ _ ?_
    clear hK K
    try simp only [Act.put, List.getElem_toArray, List.getElem_cons_zero, List.getElem_cons_succ, List.setIfInBounds_toArray, List.set_cons_succ, List.set_cons_zero]
    refine wpAny_ready (rs := [4, 6]) (by kernel_rfl) (by simp) ?_
    refine AllReady.cons rfl (fun K hK => ?_) (AllReady.cons rfl (fun K hK => ?_) AllReady.nil)
    · refine any_runs (by rfl) (runs_load rfl rfl (hcl _ (hcd _))) ?_
      refine hK _ _ ?_
      clear hK K
      try simp only [Act.put, List.getElem_toArray, List.getElem_cons_zero, List.getElem_cons_succ, List.setIfInBounds_toArray, List.set_cons_succ, List.set_cons_zero]
      refine wpAny_ready (rs := [6]) (by kernel_rfl) (by simp) ?_
      refine AllReady.cons rfl (fun K hK => ?_) AllReady.nil
      refine any_runs (by rfl) (runs_buildSlice (ps := #[(0, .agg cells.toArray)]) rfl (by simp only [List.map_toArray, List.map_cons, List.map_nil]; rfl) (run_build_wait _ _ hss)) ?_
      refine hK _ _ ?_
      clear hK K
      try simp only [Act.put, List.getElem_toArray, List.getElem_cons_zero, List.getElem_cons_succ, List.setIfInBounds_toArray, List.set_cons_succ, List.set_cons_zero]
      refine wpAny_ready (rs := [7]) (by kernel_rfl) (by simp) ?_
      refine AllReady.cons rfl (fun K hK => ?_) AllReady.nil
      refine any_runs (by rfl) (runs_append rfl rfl rfl hrun) ?_
      refine hK _ _ ?_
      clear hK K
      try simp only [Act.put, List.getElem_toArray, List.getElem_cons_zero, List.getElem_cons_succ, List.setIfInBounds_toArray, List.set_cons_succ, List.set_cons_zero]
      refine wpAny_take (i := 8) (v := ?_) rfl (by kernel_rfl) (by kernel_rfl) (by kernel_rfl) (fun _ _ _ h => h) (Or.inl ⟨by rfl, ?_⟩) ?_
      rotate_left 1
      · intro w
        go_simp
        try rfl
      try simp only [Act.put, List.getElem_toArray, List.getElem_cons_zero, List.getElem_cons_succ, List.setIfInBounds_toArray, List.set_cons_succ, List.set_cons_zero]
      refine wpAny_take (i := 9) (v := ?_) rfl (by kernel_rfl) (by kernel_rfl) (by kernel_rfl) (fun _ _ _ h => h) (Or.inl ⟨by rfl, ?_⟩) ?_
      rotate_left 1
      · intro w
        go_simp
        try rfl
      try simp only [Act.put, List.getElem_toArray, List.getElem_cons_zero, List.getElem_cons_succ, List.setIfInBounds_toArray, List.set_cons_succ, List.set_cons_zero]
      refine wpAny_ready (rs := [10]) (by kernel_rfl) (by simp) ?_
      refine AllReady.cons rfl (fun K hK => ?_) AllReady.nil
      go_simp
      refine hK _ _ ?_
      clear hK K
      try simp only [Act.put, List.getElem_toArray, List.getElem_cons_zero, List.getElem_cons_succ, List.setIfInBounds_toArray, List.set_cons_succ, List.set_cons_zero]
      refine wpAny_done (by kernel_rfl) ?_ _
      go_wp2_with fail
      go_end0
      exact ⟨rfl, fin⟩
    · refine any_runs (by rfl) (runs_buildSlice (ps := #[(0, .agg cells.toArray)]) rfl (by simp only [List.map_toArray, List.map_cons, List.map_nil]; rfl) (run_build_wait _ _ hss)) ?_
      refine hK _ _ ?_
      clear hK K
      try simp only [Act.put, List.getElem_toArray, List.getElem_cons_zero, List.getElem_cons_succ, List.setIfInBounds_toArray, List.set_cons_succ, List.set_cons_zero]
      refine wpAny_ready (rs := [4]) (by kernel_rfl) (by simp) ?_
      refine AllReady.cons rfl (fun K hK => ?_) AllReady.nil
      refine any_runs (by rfl) (runs_load rfl rfl (hcl _ (hcd2 _ _))) ?_
      refine hK _ _ ?_
      clear hK K
      try simp only [Act.put, List.getElem_toArray, List.getElem_cons_zero, List.getElem_cons_succ, List.setIfInBounds_toArray, List.set_cons_succ, List.set_cons_zero]
      refine wpAny_ready (rs := [7]) (by kernel_rfl) (by simp) ?_
      refine AllReady.cons rfl (fun K hK => ?_) AllReady.nil
      refine any_runs (by rfl) (runs_append rfl rfl rfl hrun) ?_
      refine hK _ _ ?_
      clear hK K
      try simp only [Act.put, List.getElem_toArray, List.getElem_cons_zero, List.getElem_cons_succ, List.setIfInBounds_toArray, List.set_cons_succ, List.set_cons_zero]
      refine wpAny_take (i := 8) (v := ?_) rfl (by kernel_rfl) (by kernel_rfl) (by kernel_rfl) (fun _ _ _ h => h) (Or.inl ⟨by rfl, ?_⟩) ?_
      rotate_left 1
      · intro w
        go_simp
        try rfl
      try simp only [Act.put, List.getElem_toArray, List.getElem_cons_zero, List.getElem_cons_succ, List.setIfInBounds_toArray, List.set_cons_succ, List.set_cons_zero]
      refine wpAny_take (i := 9) (v := ?_) rfl (by kernel_rfl) (by kernel_rfl) (by kernel_rfl) (fun _ _ _ h => h) (Or.inl ⟨by rfl, ?_⟩) ?_
      rotate_left 1
      · intro w
        go_simp
        try rfl
      try simp only [Act.put, List.getElem_toArray, List.getElem_cons_zero, List.getElem_cons_succ, List.setIfInBounds_toArray, List.set_cons_succ, List.set_cons_zero]
      refine wpAny_ready (rs := [10]) (by kernel_rfl) (by simp) ?_
      refine AllReady.cons rfl (fun K hK => ?_) AllReady.nil
      go_simp
      refine hK _ _ ?_
      clear hK K
      try simp only [Act.put, List.getElem_toArray, List.getElem_cons_zero, List.getElem_cons_succ, List.setIfInBounds_toArray, List.set_cons_succ, List.set_cons_zero]
      refine wpAny_done (by kernel_rfl) ?_ _
      go_wp2_with fail
      go_end0
      exact ⟨rfl, fin⟩
end Go.Proofs.Ytpllifppjlakpaa.Dk
