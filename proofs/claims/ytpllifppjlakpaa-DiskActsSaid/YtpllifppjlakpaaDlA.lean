/-
  disk: the reference's New and Of, their walks.
-/
import Derived.Test.YtpllifppjlakpaaDkZ
namespace Go.Proofs.Ytpllifppjlakpaa.Dk
open Go.RowKit Go.Shelf Go.Proofs.Ytpllifppjlakpaa
attribute [local go_sem] Oper.semAt_some
set_option linter.unusedVariables false
set_option linter.unusedSimpArgs false
theorem runs_makeSlice {P : Program} {o : Oper} {a : Act} {w w' : World} {v : Value} {t : TypeId} {x y : Operand} {p q : Value} (ho : o.op = .makeSlice t x y) (hx : a.eval x = p) (hy : a.eval y = q) (h : (Instr.makeSlice t p q).run P w = .ok v w') : Runs P a o w v w' := by
  left
  unfold execOp
  simp only [ho, hx, hy, Sem.run_bind, h, Result.andThen_ok, Sem.run_pure]
theorem rnew_walk (n : Nat) (hn : n ≤ 2000) (W : World) :
    Calls Try.prog 19 #[.int .i64 (n : Int)] W fun e W' => Below W.heap.size W W' ∧ ∃ d vS bl, e = .returned (.pointer (some ⟨d, 0, none⟩)) ∧ NewIn W.heap.size W' d n (fun _ => nots 64) vS bl := by
  have hnil := rnew_nil W
  have hB0 : Below W.heap.size W (W.alloc (.cells #[.slice none 0 0, .slice none 0 0, .int .i64 (-1), .bool false, .int .i64 0] 74)) := (Below.refl _ _).alloc (Nat.le_refl _) _
  have hk3 : ¬ (n : Int) < 0 := by omega
  have hk4 : ¬ (2000 : Int) < (n : Int) := by omega
  go_enter Try.func19, Try.ntmps19
  go_wp2_with fail
  go_loopw [4] (fun v wr => ∃ i : Nat, i ≤ n ∧ v = .int .i64 i ∧ ∃ vS bl, NewIn W.heap.size wr W.heap.size i (fun _ => nots 64) vS bl ∧ Below W.heap.size W wr) (fun v _ => n - (intOf v).toNat)
  case atStart => exact ⟨0, Nat.zero_le _, rfl, _, _, hnil, hB0⟩
  case round =>
    clear hnil hB0
    obtain ⟨i, hi, rfl, vS, bl, hin, hb⟩ := hrel
    by_cases hlt : i < n
    · have hst := rnew_step (W := wr.drew) (vS := vS) (bl := bl) (n := i) (d := W.heap.size) (B := W.heap.size) ⟨hin.head, hin.hd, hin.len, hin.row, hin.secs, hin.one⟩ hb.size (by omega)
      obtain ⟨A, c, w', hrun, hc0, hf0, hin', hb'⟩ := hst
      have e0 : wr.drew.cell? ⟨W.heap.size, 0, none⟩ = some vS := (five hin.head).1
      have e1 : (wr.drew.alloc (.cells (ints .u8 (nots 64)) 5)).cell? ⟨W.heap.size, 0, none⟩ = some vS := (five (blk_alloc (w := wr.drew) hin.head _)).1
      have e2 : ((wr.drew.alloc (.cells (ints .u8 (nots 64)) 5)).alloc (.cells #[.slice (some ⟨wr.drew.heap.size, 0, none⟩) 64 64] 22)).cell? ⟨W.heap.size, 0, none⟩ = some vS := (five (blk_alloc (blk_alloc (w := wr.drew) hin.head _) _)).1
      have hsr : (Instr.storeAt 39 (.pointer (some ⟨W.heap.size, 0, none⟩)) (.slice A (i + 1) c)).run Try.prog w' = .ok () (w'.setCell ⟨W.heap.size, 0, none⟩ (.slice A (i + 1) c)) := by
        clear hrun
        go_simp
      have hB : Below W.heap.size W (w'.setCell ⟨W.heap.size, 0, none⟩ (.slice A (i + 1) c)) := hb.drew.trans hb'
      have hld : ∀ w : World, w.cell? ⟨W.heap.size, 0, none⟩ = some vS → (Instr.loadAt 39 (.pointer (some ⟨W.heap.size, 0, none⟩))).run Try.prog w = .ok vS w := fun w hw => by
        go_simp
      have hmk : ∀ w : World, (Instr.makeSlice 22 (.int .i64 64) (.int .i64 64)).run Try.prog w = .ok (.slice (some ⟨w.heap.size, 0, none⟩) 64 64) (w.alloc (.cells (ints .u8 (nots 64)) 5)) := fun w => make_n 64 (by decide) w
      have fin : NewIn W.heap.size (w'.setCell ⟨W.heap.size, 0, none⟩ (.slice A (i + 1) c)) W.heap.size (i + 1) (fun _ => nots 64) (.slice A (i + 1) c) (bl ++ [wr.heap.size]) := hin'
      clear hin' hin hb hb'
      go_wp2_with fail
      refine wp_region_any (by kernel_rfl) ?_
      change wpAny _ _ _ _ _ _ _ wr.drew
      refine wpAny_take (i := 0) (v := ?_) rfl (by kernel_rfl) (by kernel_rfl) (by kernel_rfl) (fun _ _ _ h => h) (Or.inl ⟨by rfl, ?_⟩) ?_
      rotate_left 1
      · intro w
        go_simp
        try rfl
      try simp only [Act.put, List.getElem_toArray, List.getElem_cons_zero, List.getElem_cons_succ, List.setIfInBounds_toArray, List.set_cons_succ, List.set_cons_zero]
      refine wpAny_take (i := 1) (v := ?_) rfl (by kernel_rfl) (by kernel_rfl) (by kernel_rfl) (fun _ _ _ h => h) (Or.inl ⟨by rfl, ?_⟩) ?_
      rotate_left 1
      · intro w
        go_simp
        try rfl
      try simp only [Act.put, List.getElem_toArray, List.getElem_cons_zero, List.getElem_cons_succ, List.setIfInBounds_toArray, List.set_cons_succ, List.set_cons_zero]
      refine wpAny_take (i := 2) (v := ?_) rfl (by kernel_rfl) (by kernel_rfl) (by kernel_rfl) (fun _ _ _ h => h) (Or.inl ⟨by rfl, ?_⟩) ?_
      rotate_left 1
      · intro w
        go_simp
        try rfl
      try simp only [Act.put, List.getElem_toArray, List.getElem_cons_zero, List.getElem_cons_succ, List.setIfInBounds_toArray, List.set_cons_succ, List.set_cons_zero]
      refine wpAny_take (i := 3) (v := ?_) rfl (by kernel_rfl) (by kernel_rfl) (by kernel_rfl) (fun _ _ _ h => h) (Or.inl ⟨by rfl, ?_⟩) ?_
      rotate_left 1
      · intro w
        go_simp
        try rfl
      try simp only [Act.put, List.getElem_toArray, List.getElem_cons_zero, List.getElem_cons_succ, List.setIfInBounds_toArray, List.set_cons_succ, List.set_cons_zero]
      refine wpAny_ready (rs := [4, 5]) (by kernel_rfl) (by simp) ?_
      refine AllReady.cons rfl (fun K hK => ?_) (AllReady.cons rfl (fun K hK => ?_) AllReady.nil)
      · refine any_runs (by rfl) (runs_load rfl rfl (hld _ e0)) ?_
        refine hK _ _ ?_
        clear hK K
        try simp only [Act.put, List.getElem_toArray, List.getElem_cons_zero, List.getElem_cons_succ, List.setIfInBounds_toArray, List.set_cons_succ, List.set_cons_zero]
        refine wpAny_ready (rs := [5]) (by kernel_rfl) (by simp) ?_
        refine AllReady.cons rfl (fun K hK => ?_) AllReady.nil
        refine any_runs (by rfl) (runs_makeSlice rfl rfl rfl (hmk _)) ?_
        refine hK _ _ ?_
        clear hK K
        try simp only [Act.put, List.getElem_toArray, List.getElem_cons_zero, List.getElem_cons_succ, List.setIfInBounds_toArray, List.set_cons_succ, List.set_cons_zero]
        refine wpAny_ready (rs := [6]) (by kernel_rfl) (by simp) ?_
        refine AllReady.cons rfl (fun K hK => ?_) AllReady.nil
        refine any_runs (by rfl) (runs_buildSlice (ps := #[(0, .slice (some ⟨wr.drew.heap.size, 0, none⟩) 64 64)]) rfl (by simp only [List.map_toArray, List.map_cons, List.map_nil]; rfl) (run_build_one _ _ ⟨_, _, _, rfl⟩)) ?_
        refine hK _ _ ?_
        clear hK K
        try simp only [Act.put, List.getElem_toArray, List.getElem_cons_zero, List.getElem_cons_succ, List.setIfInBounds_toArray, List.set_cons_succ, List.set_cons_zero]
        refine wpAny_ready (rs := [7]) (by kernel_rfl) (by simp) ?_
        refine AllReady.cons rfl (fun K hK => ?_) AllReady.nil
        refine any_runs (by rfl) (runs_append rfl rfl rfl hrun) ?_
        refine hK _ _ ?_
        clear hK K
        try simp only [Act.put, List.getElem_toArray, List.getElem_cons_zero, List.getElem_cons_succ, List.setIfInBounds_toArray, List.set_cons_succ, List.set_cons_zero]
        refine wpAny_take (i := 8) (v := ?_) rfl (by kernel_rfl) (by kernel_rfl) (by kernel_rfl) (fun _ _ _ h => h) (Or.inl ⟨by rfl, ?_⟩) ?_
        rotate_left 1
        · intro w
          go_simp
          try rfl
        try simp only [Act.put, List.getElem_toArray, List.getElem_cons_zero, List.getElem_cons_succ, List.setIfInBounds_toArray, List.set_cons_succ, List.set_cons_zero]
        refine wpAny_take (i := 9) (v := ?_) rfl (by kernel_rfl) (by kernel_rfl) (by kernel_rfl) (fun _ _ _ h => h) (Or.inl ⟨by rfl, ?_⟩) ?_
        rotate_left 1
        · intro w
          go_simp
          try rfl
        try simp only [Act.put, List.getElem_toArray, List.getElem_cons_zero, List.getElem_cons_succ, List.setIfInBounds_toArray, List.set_cons_succ, List.set_cons_zero]
        refine wpAny_ready (rs := [10]) (by kernel_rfl) (by simp) ?_
        refine AllReady.cons rfl (fun K hK => ?_) AllReady.nil
        refine any_runs (by rfl) (runs_store rfl rfl rfl hsr) ?_
        refine hK _ _ ?_
        clear hK K
        try simp only [Act.put, List.getElem_toArray, List.getElem_cons_zero, List.getElem_cons_succ, List.setIfInBounds_toArray, List.set_cons_succ, List.set_cons_zero]
        refine wpAny_done (by kernel_rfl) ?_ _
        go_wp2_with fail
        exact ⟨⟨i + 1, by omega, by go_num, _, _, fin, hB⟩, by simp [intOf]; omega⟩
      · refine any_runs (by rfl) (runs_makeSlice rfl rfl rfl (hmk _)) ?_
        refine hK _ _ ?_
        clear hK K
        try simp only [Act.put, List.getElem_toArray, List.getElem_cons_zero, List.getElem_cons_succ, List.setIfInBounds_toArray, List.set_cons_succ, List.set_cons_zero]
        refine wpAny_ready (rs := [4, 6]) (by kernel_rfl) (by simp) ?_
        refine AllReady.cons rfl (fun K hK => ?_) (AllReady.cons rfl (fun K hK => ?_) AllReady.nil)
        · refine any_runs (by rfl) (runs_load rfl rfl (hld _ e1)) ?_
          refine hK _ _ ?_
          clear hK K
          try simp only [Act.put, List.getElem_toArray, List.getElem_cons_zero, List.getElem_cons_succ, List.setIfInBounds_toArray, List.set_cons_succ, List.set_cons_zero]
          refine wpAny_ready (rs := [6]) (by kernel_rfl) (by simp) ?_
          refine AllReady.cons rfl (fun K hK => ?_) AllReady.nil
          refine any_runs (by rfl) (runs_buildSlice (ps := #[(0, .slice (some ⟨wr.drew.heap.size, 0, none⟩) 64 64)]) rfl (by simp only [List.map_toArray, List.map_cons, List.map_nil]; rfl) (run_build_one _ _ ⟨_, _, _, rfl⟩)) ?_
          refine hK _ _ ?_
          clear hK K
          try simp only [Act.put, List.getElem_toArray, List.getElem_cons_zero, List.getElem_cons_succ, List.setIfInBounds_toArray, List.set_cons_succ, List.set_cons_zero]
          refine wpAny_ready (rs := [7]) (by kernel_rfl) (by simp) ?_
          refine AllReady.cons rfl (fun K hK => ?_) AllReady.nil
          refine any_runs (by rfl) (runs_append rfl rfl rfl hrun) ?_
          refine hK _ _ ?_
          clear hK K
          try simp only [Act.put, List.getElem_toArray, List.getElem_cons_zero, List.getElem_cons_succ, List.setIfInBounds_toArray, List.set_cons_succ, List.set_cons_zero]
          refine wpAny_take (i := 8) (v := ?_) rfl (by kernel_rfl) (by kernel_rfl) (by kernel_rfl) (fun _ _ _ h => h) (Or.inl ⟨by rfl, ?_⟩) ?_
          rotate_left 1
          · intro w
            go_simp
            try rfl
          try simp only [Act.put, List.getElem_toArray, List.getElem_cons_zero, List.getElem_cons_succ, List.setIfInBounds_toArray, List.set_cons_succ, List.set_cons_zero]
          refine wpAny_take (i := 9) (v := ?_) rfl (by kernel_rfl) (by kernel_rfl) (by kernel_rfl) (fun _ _ _ h => h) (Or.inl ⟨by rfl, ?_⟩) ?_
          rotate_left 1
          · intro w
            go_simp
            try rfl
          try simp only [Act.put, List.getElem_toArray, List.getElem_cons_zero, List.getElem_cons_succ, List.setIfInBounds_toArray, List.set_cons_succ, List.set_cons_zero]
          refine wpAny_ready (rs := [10]) (by kernel_rfl) (by simp) ?_
          refine AllReady.cons rfl (fun K hK => ?_) AllReady.nil
          refine any_runs (by rfl) (runs_store rfl rfl rfl hsr) ?_
          refine hK _ _ ?_
          clear hK K
          try simp only [Act.put, List.getElem_toArray, List.getElem_cons_zero, List.getElem_cons_succ, List.setIfInBounds_toArray, List.set_cons_succ, List.set_cons_zero]
          refine wpAny_done (by kernel_rfl) ?_ _
          go_wp2_with fail
          exact ⟨⟨i + 1, by omega, by go_num, _, _, fin, hB⟩, by simp [intOf]; omega⟩
        · refine any_runs (by rfl) (runs_buildSlice (ps := #[(0, .slice (some ⟨wr.drew.heap.size, 0, none⟩) 64 64)]) rfl (by simp only [List.map_toArray, List.map_cons, List.map_nil]; rfl) (run_build_one _ _ ⟨_, _, _, rfl⟩)) ?_
          refine hK _ _ ?_
          clear hK K
          try simp only [Act.put, List.getElem_toArray, List.getElem_cons_zero, List.getElem_cons_succ, List.setIfInBounds_toArray, List.set_cons_succ, List.set_cons_zero]
          refine wpAny_ready (rs := [4]) (by kernel_rfl) (by simp) ?_
          refine AllReady.cons rfl (fun K hK => ?_) AllReady.nil
          refine any_runs (by rfl) (runs_load rfl rfl (hld _ e2)) ?_
          refine hK _ _ ?_
          clear hK K
          try simp only [Act.put, List.getElem_toArray, List.getElem_cons_zero, List.getElem_cons_succ, List.setIfInBounds_toArray, List.set_cons_succ, List.set_cons_zero]
          refine wpAny_ready (rs := [7]) (by kernel_rfl) (by simp) ?_
          refine AllReady.cons rfl (fun K hK => ?_) AllReady.nil
          refine any_runs (by rfl) (runs_append rfl rfl rfl hrun) ?_
          refine hK _ _ ?_
          clear hK K
          try simp only [Act.put, List.getElem_toArray, List.getElem_cons_zero, List.getElem_cons_succ, List.setIfInBounds_toArray, List.set_cons_succ, List.set_cons_zero]
          refine wpAny_take (i := 8) (v := ?_) rfl (by kernel_rfl) (by kernel_rfl) (by kernel_rfl) (fun _ _ _ h => h) (Or.inl ⟨by rfl, ?_⟩) ?_
          rotate_left 1
          · intro w
            go_simp
            try rfl
          try simp only [Act.put, List.getElem_toArray, List.getElem_cons_zero, List.getElem_cons_succ, List.setIfInBounds_toArray, List.set_cons_succ, List.set_cons_zero]
          refine wpAny_take (i := 9) (v := ?_) rfl (by kernel_rfl) (by kernel_rfl) (by kernel_rfl) (fun _ _ _ h => h) (Or.inl ⟨by rfl, ?_⟩) ?_
          rotate_left 1
          · intro w
            go_simp
            try rfl
          try simp only [Act.put, List.getElem_toArray, List.getElem_cons_zero, List.getElem_cons_succ, List.setIfInBounds_toArray, List.set_cons_succ, List.set_cons_zero]
          refine wpAny_ready (rs := [10]) (by kernel_rfl) (by simp) ?_
          refine AllReady.cons rfl (fun K hK => ?_) AllReady.nil
          refine any_runs (by rfl) (runs_store rfl rfl rfl hsr) ?_
          refine hK _ _ ?_
          clear hK K
          try simp only [Act.put, List.getElem_toArray, List.getElem_cons_zero, List.getElem_cons_succ, List.setIfInBounds_toArray, List.set_cons_succ, List.set_cons_zero]
          refine wpAny_done (by kernel_rfl) ?_ _
          go_wp2_with fail
          exact ⟨⟨i + 1, by omega, by go_num, _, _, fin, hB⟩, by simp [intOf]; omega⟩
    · obtain rfl : i = n := by omega
      go_wp2_with fail
      go_ret
      exact ⟨hb, _, vS, bl, rfl, hin⟩
theorem rnew_neg (k : Int) (hk : k < 0) (W : World) :
    Calls Try.prog 19 #[.int .i64 k] W fun e W' => Below W.heap.size W W' ∧ ∃ d vS bl, e = .returned (.pointer (some ⟨d, 0, none⟩)) ∧ NewIn W.heap.size W' d 0 (fun _ => nots 64) vS bl := by
  have hnil := rnew_nil W
  have hB0 : Below W.heap.size W (W.alloc (.cells #[.slice none 0 0, .slice none 0 0, .int .i64 (-1), .bool false, .int .i64 0] 74)) := (Below.refl _ _).alloc (Nat.le_refl _) _
  go_enter Try.func19, Try.ntmps19
  go_wp2_with fail
  go_loopw [4] (fun v wr => v = .int .i64 0 ∧ ∃ vS bl, NewIn W.heap.size wr W.heap.size 0 (fun _ => nots 64) vS bl ∧ Below W.heap.size W wr) (fun v _ => 0)
  case atStart => exact ⟨rfl, _, _, hnil, hB0⟩
  case round =>
    clear hnil hB0
    obtain ⟨rfl, vS, bl, hin, hb⟩ := hrel
    go_wp2_with fail
    go_ret
    exact ⟨hb, _, vS, bl, rfl, hin⟩
theorem rnew_any (k : Int) (hk : k ≤ 2000) (W : World) :
    Calls Try.prog 19 #[.int .i64 k] W fun e W' => Below W.heap.size W W' ∧ ∃ d G, e = .returned (.pointer (some ⟨d, 0, none⟩)) ∧ (∀ b, G b → W.heap.size ≤ b) ∧ RefAt G W' d (newDk k) := by
  have hs : ∀ n, (min (max k 0) 2000).toNat = n → ∀ j, j < n → secOf (newDk k).L j = nots 64 := fun n hn j hj => by
    show secOf (nots (64 * (min (max k 0) 2000).toNat)) j = _
    rw [hn]
    unfold secOf nots
    rw [List.drop_replicate, List.take_replicate]
    congr 1
    omega
  rcases (by omega : k < 0 ∨ 0 ≤ k) with h | h
  · refine (rnew_neg k h W).mono ?_
    rintro e W' ⟨hb, d, vS, bl, rfl, hin⟩
    exact ⟨hb, d, _, rfl, fun b hb => hb.1, hin.ref (new_ok k) (by show (min (max k 0) 2000).toNat = 0; omega) (hs 0 (by omega)) rfl rfl rfl rfl⟩
  · obtain ⟨n, rfl⟩ := Int.eq_ofNat_of_zero_le h
    refine (rnew_walk n (by omega) W).mono ?_
    rintro e W' ⟨hb, d, vS, bl, rfl, hin⟩
    exact ⟨hb, d, _, rfl, fun b hb => hb.1, hin.ref (new_ok _) (by show (min (max (n : Int) 0) 2000).toNat = n; omega) (hs n (by omega)) rfl rfl rfl rfl⟩
end Go.Proofs.Ytpllifppjlakpaa.Dk
