/-
  disk: Write.
-/
import Derived.Test.YtpllifppjlakpaaDkD
namespace Go.Proofs.Ytpllifppjlakpaa.Dk
open Go.RowKit Go.Shelf Go.Proofs.Ytpllifppjlakpaa
attribute [local go_sem] Oper.semAt_some
set_option linter.unusedVariables false
set_option linter.unusedSimpArgs false
theorem fold_list (off i : Nat) : ∀ (l : List Value) (k : Nat) (z : Array Value), off + k + l.length ≤ z.size → ((l.zipIdx k).foldl (fun cs (x : Value × Nat) => cs.setIfInBounds (off + x.2) x.1) z)[i]? = if off + k ≤ i ∧ i < off + k + l.length then l[i - off - k]? else z[i]?
  | [], k, z, _ => by rw [if_neg (by simp only [List.length_nil]; omega)]; rfl
  | v :: l, k, z, h => by
    rw [List.length_cons] at h
    rw [List.zipIdx_cons, List.foldl_cons, fold_list off i l (k + 1) _ (by rw [Array.size_setIfInBounds]; omega), List.length_cons]
    by_cases h1 : off + (k + 1) ≤ i ∧ i < off + (k + 1) + l.length
    · rw [if_pos h1, if_pos (by omega)]
      rw [show i - off - k = (i - off - (k + 1)) + 1 by omega, List.getElem?_cons_succ]
    · rw [if_neg h1, Array.getElem?_setIfInBounds]
      by_cases h2 : off + k = i
      · rw [if_pos h2, if_pos (by omega), if_pos (by omega), show i - off - k = 0 by omega, List.getElem?_cons_zero]
      · rw [if_neg h2, if_neg (by omega)]
theorem places68 : (Try.prog.underlying 68).map (fun d => match d with | .struct fs => fs.toList.mapM (fun f => (Try.prog.info? f.type).map fun i => (f.offset, i.size)) | _ => none) = some (some [(0, 1), (1, 64)]) := by kernel_rfl
theorem run_build_val (w : World) (n : Int) (x : List Int) (hx : x.length = 64) : (Instr.build 68 #[(0, .int .i64 n), (1, .agg (ints .u8 x))]).run Try.prog w = .ok (.agg (.int .i64 n :: x.map (Value.int .u8)).toArray) w := by
  refine run_build w 68 _ _ ?_
  obtain ⟨i0, hi, hz0, hz1, hz2⟩ := info_parts info68
  obtain ⟨f68, hu68⟩ := under68
  have hp := places68
  rw [hu68] at hp
  simp only [Option.map_some, Option.some.injEq] at hp
  unfold Program.built
  simp only [hi, hu68, hz0, hp]
  have hs0 : (#[Value.int .i64 0] ++ ints .u8 (nots 64)).size = 65 := by rw [Array.size_append, ints_size, nots_sec.1]; rfl
  have hc : ∀ c, (Value.agg c).cells = c := fun _ => rfl
  have hc1 : (Value.int .i64 n).cells = #[.int .i64 n] := rfl
  have hxs : (ints .u8 x).size = 64 := by rw [ints_size, hx]
  rw [Instr.fill]
  simp only [hc, hc1, List.getElem?_toArray, List.getElem?_cons_zero, hs0, ne_eq, List.size_toArray, List.length_cons, List.length_nil, Nat.zero_add, not_true, decide_false, Bool.false_or, gt_iff_lt, show ¬ (65 < 1) by decide, if_false, Bool.false_eq_true]
  rw [Instr.fill]
  simp only [hc, List.getElem?_toArray, List.getElem?_cons_succ, List.getElem?_cons_zero, hxs, ne_eq, not_true, decide_false, Bool.false_or, gt_iff_lt]
  have e1 : Array.foldl (fun cs (x : Value × Nat) => cs.setIfInBounds x.2 x.1) (#[Value.int .i64 0] ++ ints .u8 (nots 64)) #[Value.int .i64 n].zipIdx = #[Value.int .i64 n] ++ ints .u8 (nots 64) := by
    rw [← Array.foldl_toList, Array.toList_zipIdx]
    simp only [List.zipIdx_cons, List.zipIdx_nil, List.foldl_cons, List.foldl_nil]
    simp [ints]
  rw [e1]
  have hs1 : (#[Value.int .i64 n] ++ ints .u8 (nots 64)).size = 65 := by rw [Array.size_append, ints_size, nots_sec.1]; rfl
  rw [hs1]
  simp only [show ¬ (65 < 1 + 64) by decide, decide_false, Bool.false_eq_true, if_false]
  rw [Instr.fill]
  refine congrArg some ?_
  have hZ0 : (#[Value.int .i64 n] ++ ints .u8 (nots 64))[0]? = some (.int .i64 n) := by rw [Array.getElem?_append_left (by show 0 < 1; decide)]; rfl
  generalize (#[Value.int .i64 n] ++ ints .u8 (nots 64)) = Z at hs1 hZ0
  have hl : (ints .u8 x).toList.length = 64 := by rw [Array.length_toList, hxs]
  have hg : ∀ i : Nat, (ints .u8 x).toList[i]? = (x[i]?).map (Value.int .u8) := fun i => by rw [Array.getElem?_toList, ints_get]
  rw [← Array.foldl_toList, Array.toList_zipIdx]
  generalize (ints .u8 x).toList = l at hl hg ⊢
  apply Array.ext_getElem?
  intro i
  refine (fold_list 1 i l 0 Z (by rw [hs1, hl]; decide)).trans ?_
  rw [hl]
  by_cases h1 : 1 + 0 ≤ i ∧ i < 1 + 0 + 64
  · rw [if_pos h1]
    obtain ⟨j, rfl⟩ : ∃ j, i = j + 1 := ⟨i - 1, by omega⟩
    rw [show j + 1 - 1 - 0 = j by omega, hg, List.getElem?_toArray, List.getElem?_cons_succ, List.getElem?_map]
  · rw [if_neg h1]
    rcases Nat.lt_or_ge i 1 with h2 | h2
    · obtain rfl : i = 0 := by omega
      rw [hZ0]
      rfl
    · rw [Array.getElem?_eq_none (by rw [hs1]; omega), Array.getElem?_eq_none (by rw [List.size_toArray, List.length_cons, List.length_map, hx]; omega)]
theorem waitCells_one (q : Nat × List Int) : ∀ u ∈ waitCells q, u.oneCell' = true := by
  intro u hu
  rcases List.mem_cons.1 hu with rfl | hu
  · rfl
  · obtain ⟨z, _, rfl⟩ := List.mem_map.1 hu
    rfl
theorem waitCells_length (q : Nat × List Int) (h : isSec q.2) : (waitCells q).length = 65 := by simp [waitCells, h.1]
/-- A write to the cache. -/
theorem CacheAt.put {W : World} {g n : Nat} {C : Int → Option (List Int)} (h : CacheAt W g n C) (hn : n < 1954687338268) (k : Int) (h0 : -9223372036854775808 ≤ k) (h1 : k ≤ 9223372036854775807) (x : List Int) (hx : isSec x) :
    ∃ W', (Instr.mapUpdate 53 (.map (some g)) (.int .i64 k) (.agg (ints .u8 x))).run Try.prog W = .ok () W' ∧ CacheAt W' g (n + 1) (fun j => if j = k then some x else C j) ∧ W.grownBy W' (some g) := by
  obtain ⟨D, hD, hat⟩ := h
  obtain ⟨W', hrun, hown, hg⟩ := hD.update key3 Try.underlying53 (by simp only [maxLen]; omega) (Maps.keyOf_int_mk Try.underlying3 (int_wf h0 h1)) (Rsec_mk hx)
  refine ⟨W', hrun, ⟨_, hown, fun j hj zd => ?_⟩, hg⟩
  have hm : Maps.IsMap D := by
    obtain ⟨es, clock, _, _, _, rfl⟩ := hD
    first | exact trivial | exact ⟨_, rfl⟩
  show (D.put (.int .i64 k) (encS x)).atKey (.int .i64 j) zd = ((if j = k then some x else C j).map encS).getD zd
  by_cases hjk : j = k
  · subst hjk
    rw [Maps.atKey_put_same hm (key3.key (Maps.keyOf_int_mk Try.underlying3 hj)), if_pos rfl]
    rfl
  · rw [Maps.atKey_put_other (fun e => hjk (by injection e)), if_neg hjk]
    exact hat j hj zd
def writeDk (s : Dk) (k : Nat) (x : List Int) : Dk := { actDk s with C := fun j => if j = (k : Int) then some x else s.C j, Q := s.Q ++ [(k, x)] }
theorem actDk_C (s : Dk) : (actDk s).C = s.C := by unfold actDk; split <;> rfl
theorem actDk_Q (s : Dk) : (actDk s).Q = s.Q := by unfold actDk; split <;> rfl
theorem actDk_n (s : Dk) : (actDk s).n = s.n := by unfold actDk; split <;> rfl
theorem actDk_L (s : Dk) : (actDk s).L = s.L := by unfold actDk; split <;> rfl
/-- The blocks are F's, or new. -/
def Grows (F F' : Nat → Prop) (N : Nat) : Prop := ∀ b, F' b → F b ∨ N ≤ b
theorem sec_range {W : World} {b off : Nat} {bs : List Int} (hl : bs.length = 64) (hc : ∀ i, i < 64 → W.cell? ⟨b, off + i, none⟩ = some (.int .u8 (bs[i]?.getD 0))) : W.rangeAt b off (ints .u8 bs).toList := fun j v hv => by
  rw [Array.getElem?_toList, ints_get] at hv
  cases hj : bs[j]? with
  | none => rw [hj] at hv; cases hv
  | some z =>
    have hjl := (List.getElem?_eq_some_iff.1 hj).1
    rw [hc j (by omega), hj]
    rw [hj] at hv
    exact hv
set_option maxHeartbeats 1000000 in
theorem write_any {F : Nat → Prop} {W : World} {d : Nat} {s : Dk} (h : DiskAt F W d s) (hoff : s.off = false) (harm : s.armed ≠ 0) (hQ : s.Q.length < 1954687338211) (k : Nat) (hk : k < s.n) (A : Option Addr) (c : Nat) (bs : List Int) (hb : BytesAt W W.heap.size A 64 bs) (hnA : ∀ b off, A = some ⟨b, off, none⟩ → ¬ F b) :
    Calls Try.prog 11 #[.pointer (some ⟨d, 0, none⟩), .int .i64 k, .slice A 64 c] W fun e W' => e = .returned (.int .i64 0) ∧ Keeps F W W' ∧ ∃ F', Grows F F' W.heap.size ∧ DiskAt F' W' d (writeDk s k bs) := by
  have hu := up_any h
  rw [hoff] at hu
  have hact := act_any h
  rw [decide_eq_true harm] at hact
  obtain ⟨h0, -, -, gL0, gM0, vQ0, -, -, -, b4, -, -, -⟩ := id h
  obtain ⟨c0, -⟩ := six b4
  have hn := h0.n
  have d1 : decide ((k : Int) < 0) = false := decide_eq_false (by omega)
  have d2 : decide ((s.n : Int) ≤ (k : Int)) = false := decide_eq_false (by omega)
  have d3 : decide (s.n ≤ k) = false := decide_eq_false (by omega)
  obtain ⟨b, off, rfl, hbB, -⟩ := hb.2.2 (by decide)
  have hsec : isSec bs := ⟨hb.1, hb.2.1⟩
  clear h0 b4
  go_enter Try.func11, Try.ntmps11
  go_wp2_with fail
  refine hu.mono ?_
  rintro e W' ⟨rfl, rfl⟩
  go_wp2_with fail
  refine hact.mono ?_
  rintro e W1 ⟨rfl, hD1, hK1⟩
  obtain ⟨b', off', hbe, -, hcell0⟩ := hb.2.2 (by decide)
  injection hbe with hbe
  injection hbe with e1 e2 _
  subst e1; subst e2
  have hcell : ∀ i, i < 64 → W1.cell? ⟨b, off + i, none⟩ = some (.int .u8 (bs[i]?.getD 0)) := fun i hi => (World.cell?_of_block (a := ⟨b, off + i, none⟩) (hK1.block b hbB (hnA b off rfl))).trans (hcell0 i hi)
  have hrg := sec_range hsec.1 hcell
  have harr : (Instr.arrayAt 65 (.slice (some ⟨b, off, none⟩) 64 c)).run Try.prog W1 = .ok (.pointer (some ⟨b, off, none⟩)) W1 := by
    simp only [Instr.arrayAt, Sem.run_bind, run_underlying under65, Result.andThen_ok]
    rfl
  clear c0 hu hact hcell hcell0
  go_wp2_with (first | (refine wpList_load_mid rfl 65 (.tmp 34) rfl b off rfl _ _ hrg under65 rfl (size65 (by rw [Array.length_toList, ints_size, hsec.1])) ?_) | (refine wpL_store (by rfl) 65 (.tmp 7) (.tmp 35) rfl W1.heap.size (ints .u8 bs) rfl rfl 65 _ (heap_alloc_last W1 _) (size65 (by rw [ints_size, hsec.1])) (by rw [ints_size, hsec.1]; rfl) (ints_one _ _) ?_; rw [setRow_last _ _ _ _ _ rfl]))
  have hD2 : DiskAt F (W1.alloc (.cells (ints .u8 bs) 65)) d (actDk s) := hD1.below ((Below.refl _ _).alloc (Nat.le_refl _) _)
  have hK2 : Keeps F W (W1.alloc (.cells (ints .u8 bs) 65)) := hK1.trans (Keeps.of_below (F := F) ((Below.refl _ _).alloc (Nat.le_refl _) _)) (fun b _ h => h)
  have hx2 : (W1.alloc (.cells (ints .u8 bs) 65)).heap[W1.heap.size]? = some (.cells (ints .u8 bs) 65 (0, 0)) := heap_alloc_last _ _
  have hnF : ¬ F W1.heap.size := fun hf => absurd (hD1.2.1 _ hf) (by omega)
  clear hrg harr hb hD1
  generalize hW2 : W1.alloc (.cells (ints .u8 bs) 65) = W2 at hD2 hK2 hx2 ⊢
  generalize W1.heap.size = B2 at hx2 hnF ⊢
  obtain ⟨h0, h1, h2, gL, gM, vQ, a1, a2, a3, a4, a5, a6, a7⟩ := id hD2
  obtain ⟨c0, c1, c2, c3, c4, c5⟩ := six a4
  obtain ⟨W3, hup, hC3, hg3⟩ := CacheAt.put (W := W2.drew) (C := (actDk s).C) (n := (actDk s).Q.length) (g := gM) a6 (by have := h0.room; omega) (k : Int) (by omega) (by omega) bs hsec
  have hld : ∀ w : World, w.heap[B2]? = some (.cells (ints .u8 bs) 65 (0, 0)) → (Instr.loadAt 65 (.pointer (some ⟨B2, 0, none⟩))).run Try.prog w = .ok (.agg (ints .u8 bs)) w := fun w hw => run_load_one hw hsec.1
  refine wp_region_still_tail 6 (by kernel_rfl) (by kernel_rfl) ?_
  simp only [List.take_succ_cons, List.take_zero, List.drop_succ_cons, List.drop_zero]
  change wpStill _ _ W2.drew _ _ _
  still_step
  still_step
  still_step
  still_step
  still_step
  refine wpStill_step (fun K hK => ?_)
  refine still_runs (by rfl) (runs_load rfl rfl (hld _ hx2)) ?_
  refine hK _ ?_
  clear hK K
  refine wpStill_nil ?_
  try simp only [Act.put, List.getElem_toArray, List.getElem_cons_zero, List.getElem_cons_succ, List.setIfInBounds_toArray, List.set_cons_succ, List.set_cons_zero]
  change wpList _ _ _ _ _ W2.drew
  refine list_runs (by rfl) (runs_mapUpdate rfl rfl rfl rfl hup) ?_
  go_wp2_with fail
  try simp only [Act.put, List.getElem_toArray, List.getElem_cons_zero, List.getElem_cons_succ, List.setIfInBounds_toArray, List.set_cons_succ, List.set_cons_zero]
  have ne1 : gM ≠ gL := a6.ne a5
  have ne2 : gM ≠ d := a6.ne a4
  have ne3 : gM ≠ B2 := a6.ne hx2
  have ne4 : gL ≠ d := fun e => by subst e; exact absurd (blk_type a4 a5) (by decide)
  have ne5 : vQ.ownBlock ≠ some gM := fun e => by
    obtain ⟨cl, hh⟩ := ownsRow_type a7 e
    exact a6.ne hh rfl
  have ne6 : vQ.ownBlock ≠ some gL := fun e => by
    obtain ⟨cl, hh⟩ := ownsRow_type a7 e
    exact absurd (blk_type a5 hh) (by decide)
  have hk3 : ∀ b, b < W2.heap.size → b ≠ gM → W3.heap[b]? = W2.heap[b]? := fun b hb hne => hg3.block b hb (fun e => hne (by injection e))
  have b4 := (hk3 d (blk_lt a4) (Ne.symm ne2)).trans a4
  have b5 := (hk3 gL (blk_lt a5) (Ne.symm ne1)).trans a5
  have bx := (hk3 B2 (blk_lt hx2) (Ne.symm ne3)).trans hx2
  have b7 : W3.drew.ownsRow 0 68 65 vQ (actDk s).Q.length ((actDk s).Q.flatMap waitCells) := ownsRow_same a7 (fun k hk hl => hk3 k hl (fun e => ne5 (by rw [hk, e])))
  have hK3 : Keeps F W W3.drew := hK2.trans (F := F) (G := F) ⟨hg3.os, hg3.tape, hg3.output, hg3.size, fun b hb hf => hk3 b hb (fun e => hf (by rw [e]; exact a2))⟩ (fun b _ h => h)
  have hs3 : W2.heap.size ≤ W3.heap.size := hg3.size
  have hcput := put_any W3.drew d _ _ vQ _ _ _ (actDk s).Q.length _ (waitCells (k, bs)) b4 b7 (waitCells_length _ hsec) (waitCells_one _) (by have := h0.room; omega)
  have hbv := run_build_val W3.drew (k : Int) bs hsec.1
  clear hup hg3 hx2 hD2 c0 c1 c2 c3 c4 c5 a5 a4 a6 a7 hk3 hW2
  refine wp_region_still_tail 6 (by kernel_rfl) (by kernel_rfl) ?_
  simp only [List.take_succ_cons, List.take_zero, List.drop_succ_cons, List.drop_zero]
  change wpStill _ _ W3.drew _ _ _
  still_step
  still_step
  still_step
  still_step
  refine wpStill_step (fun K hK => ?_)
  refine still_runs (by rfl) (runs_load rfl rfl (hld _ bx)) ?_
  refine hK _ ?_
  clear hK K
  try simp only [Act.put, List.getElem_toArray, List.getElem_cons_zero, List.getElem_cons_succ, List.setIfInBounds_toArray, List.set_cons_succ, List.set_cons_zero]
  refine wpStill_step (fun K hK => ?_)
  refine still_runs (by rfl) (runs_build (ps := #[(0, .int .i64 k), (1, .agg (ints .u8 bs))]) rfl (by simp only [List.map_toArray, List.map_cons, List.map_nil]; rfl) hbv) ?_
  refine hK _ ?_
  clear hK K
  try simp only [Act.put, List.getElem_toArray, List.getElem_cons_zero, List.getElem_cons_succ, List.setIfInBounds_toArray, List.set_cons_succ, List.set_cons_zero]
  refine wpStill_nil ?_
  change wpList _ _ _ _ _ W3.drew
  clear hbv hld
  go_wp2_with fail
  refine hcput.mono ?_
  rintro e W4 ⟨rfl, vQ', e4, e7, hvb, hK4⟩
  go_wp2_with fail
  go_ret
  have n1 : gL ≠ d := ne4
  have ks : ∀ b, F b → b ≠ d → vQ.ownBlock ≠ some b → W4.heap[b]? = W3.heap[b]? := fun b hf hd hv => hK4.block b (Nat.lt_of_lt_of_le (h1 b hf) hs3) (fun hh => by
    rcases hh with hh | hh
    · exact hd hh
    · exact hv hh)
  have hs4 : W3.heap.size ≤ W4.heap.size := hK4.size
  refine ⟨rfl, hK3.trans hK4 (fun b _ hh => by
    rcases hh with rfl | hh
    · exact h2
    · exact a3 b hh), fun b => F b ∨ vQ'.ownBlock = some b, fun b hb => ?_, ?_⟩
  · rcases hb with hb | hb
    · exact .inl hb
    · rcases hvb with hv | ⟨g, hg, hle⟩
      · exact .inl (a3 b (hv ▸ hb))
      · rw [hg] at hb
        injection hb with hb
        exact .inr (by rw [← hb]; exact Nat.le_trans (Nat.le_trans hK2.size hs3) hle)
  · have hQe : (writeDk s k bs).Q = (actDk s).Q ++ [(k, bs)] := by rw [actDk_Q]; rfl
    have hCe : (writeDk s k bs).C = fun j => if j = (k : Int) then some bs else (actDk s).C j := by rw [actDk_C]; rfl
    have hQl : (writeDk s k bs).Q.length = (actDk s).Q.length + 1 := by rw [hQe, List.length_append]; rfl
    refine ⟨⟨h0.n, h0.len, h0.bytes, fun j x hj => ?_, fun q hq => ?_, ?_, h0.armed, h0.acts⟩, fun b hb => ?_, .inl h2, gL, gM, vQ', .inl a1, .inl a2, fun b hb => .inr hb, e4, (ks gL a1 n1 ne6).trans b5, ?_, ?_⟩
    · rw [hCe] at hj
      by_cases hjk : j = (k : Int)
      · have hj : (if j = (k : Int) then some bs else (actDk s).C j) = some x := hj
        rw [if_pos hjk] at hj
        injection hj with hj
        subst hj
        subst hjk
        exact ⟨by omega, by show (k : Int) < ((actDk s).n : Nat); rw [actDk_n]; omega, hsec⟩
      · have hj : (if j = (k : Int) then some bs else (actDk s).C j) = some x := hj
        rw [if_neg hjk] at hj
        exact h0.cache j x hj
    · rw [hQe] at hq
      rcases List.mem_append.1 hq with hq | hq
      · exact h0.queue q hq
      · obtain rfl := List.mem_singleton.1 hq
        exact ⟨by show k < (actDk s).n; rw [actDk_n]; exact hk, hsec⟩
    · rw [hQl, actDk_Q]; omega
    · rcases hb with hb | hb
      · exact Nat.lt_of_lt_of_le (h1 b hb) (Nat.le_trans hs3 hs4)
      · exact (e7.lt b hb).2
    · rw [hQl, hCe]
      exact hC3.kept hs4 (ks gM a2 ne2 ne5)
    · rw [hQl, hQe, List.flatMap_append]
      have e : List.flatMap waitCells [(k, bs)] = waitCells (k, bs) := by simp
      rw [e]
      exact e7
end Go.Proofs.Ytpllifppjlakpaa.Dk
