/-
  disk: DiskKeeps.
-/
import Derived.Test.YtpllifppjlakpaaDkP
namespace Go.Proofs.Ytpllifppjlakpaa.Dk
open Go.RowKit Go.Shelf Go.Proofs.Ytpllifppjlakpaa
attribute [local go_sem] Oper.semAt_some
set_option linter.unusedVariables false
set_option linter.unusedSimpArgs false
set_option maxHeartbeats 1000000 in
theorem read_blk {F : Nat → Prop} {W : World} {d : Nat} {s : Dk} (h : DiskAt F W d s) (hoff : s.off = false) (k : Nat) (hk : k < s.n) :
    Calls Try.prog 16 #[.pointer (some ⟨d, 0, none⟩), .int .i64 k] W fun e W' => Below W.heap.size W W' ∧ ∃ b, e = .returned (.tuple #[.slice (some ⟨b, 0, none⟩) 64 64, .int .i64 0]) ∧ W.heap.size ≤ b ∧ W'.heap[b]? = some (.cells (ints .u8 ((s.C k).getD (secOf s.L k))) 65 (0, 0)) := by
  have hu := up_any h
  rw [hoff] at hu
  obtain ⟨h0, h1, h2, gL, gM, vQ, a1, a2, a3, a4, a5, a6, a7⟩ := id h
  obtain ⟨c0, c1, c2, c3, c4, c5⟩ := six a4
  have hn := h0.n
  have hlk := a6.look k (by omega) (by omega)
  have d1 : decide ((k : Int) < 0) = false := decide_eq_false (by omega)
  have d2 : decide ((s.n : Int) ≤ (k : Int)) = false := decide_eq_false (by omega)
  have d3 : decide (s.n ≤ k) = false := decide_eq_false (by omega)
  have hsec : isSec (secOf s.L k) := ⟨secOf_length h0.len hk, secOf_bytes h0.bytes k⟩
  have hin : ∀ o, (W.alloc o).cell? ⟨d, 0, none⟩ = some (.slice (some ⟨gL, 0, none⟩) s.n s.n) := fun o => (six (blk_alloc a4 o)).1
  have hcs := h0.cache k
  have hrg : ∀ o, (W.alloc o).rangeAt gL (k * 64) (ints .u8 (secOf s.L k)).toList := fun o => by rw [Nat.mul_comm]; exact secOf_range (blk_alloc a5 o) k
  cases hc : s.C k with
  | some x =>
    have hx := (hcs x hc).2.2
    rw [hc] at hlk
    clear h0 h1 h2 a1 a2 a3 a7 hcs
    go_enter Try.func16, Try.ntmps16
    go_wp2_with fail
    refine hu.mono ?_
    rintro e W' ⟨rfl, rfl⟩
    go_wp2_with (refine wpL_store (by rfl) 65 (.tmp 6) (.tmp 31) rfl W.heap.size (ints .u8 x) rfl rfl 65 _ (heap_alloc_last W _) (size65 (by rw [ints_size, hx.1])) (by rw [ints_size, hx.1]; rfl) (ints_one _ _) ?_; rw [setRow_last _ _ _ _ _ rfl])
    go_ret2
    exact ⟨(Below.refl _ _).alloc (Nat.le_refl _) _, _, rfl, Nat.le_refl _, heap_alloc_last W _⟩
  | none =>
    rw [hc] at hlk
    clear h0 h1 h2 a1 a2 a3 a7 hcs
    go_enter Try.func16, Try.ntmps16
    go_wp2_with fail
    refine hu.mono ?_
    rintro e W' ⟨rfl, rfl⟩
    go_wp2_with (first | (refine wpList_load_mid rfl 65 (.tmp 40) rfl gL (k * 64) rfl _ _ (hrg _) under65 rfl (size65 (by simp [ints, hsec.1])) ?_) | (refine wpL_store (by rfl) 65 (.tmp 6) (.tmp 31) rfl W.heap.size (ints .u8 (nots 64)) rfl rfl 65 _ (heap_alloc_last W _) (size65 (by rw [ints_size, nots_sec.1])) (by rw [ints_size, nots_sec.1]; rfl) (ints_one _ _) ?_; rw [setRow_last _ _ _ _ _ rfl]) | (refine wpL_store (by rfl) 65 (.tmp 6) (.tmp 41) rfl W.heap.size (ints .u8 (secOf s.L k)) rfl rfl 65 _ (heap_alloc_last W _) (size65 (by rw [ints_size, hsec.1])) (by rw [ints_size, ints_size, hsec.1, nots_sec.1]) (ints_one _ _) ?_; rw [setRow_last _ _ _ _ _ rfl]))
    go_ret2
    exact ⟨(Below.refl _ _).alloc (Nat.le_refl _) _, _, rfl, Nat.le_refl _, heap_alloc_last W _⟩
theorem waiting_none {F : Nat → Prop} {W : World} {d : Nat} {s : Dk} (h : DiskAt F W d s) (hQ : s.Q = []) : Calls Try.prog 17 #[.pointer (some ⟨d, 0, none⟩)] W fun e W' => e = .returned (.slice none 0 0) ∧ W = W' := by
  obtain ⟨h0, h1, h2, gL, gM, vQ, a1, a2, a3, a4, a5, a6, a7⟩ := id h
  have hA : ∃ AQ cQ, vQ = .slice AQ 0 cQ := by
    rw [hQ] at a7
    rcases a7.2 with ⟨rfl, hn⟩ | ⟨g, cap, cur, rfl, _⟩
    · exact ⟨_, _, rfl⟩
    · exact ⟨_, _, rfl⟩
  obtain ⟨AQ, cQ, rfl⟩ := hA
  obtain ⟨c0, c1, c2, c3, c4, c5⟩ := six a4
  clear h0 h1 h2 a1 a2 a3 a5 a6 a7 h
  go_enter Try.func17, Try.ntmps17
  go_wp2
  go_loopw [3, 14] (fun v3 v wr => v = .int .i64 0 ∧ v3 = .slice none 0 0 ∧ wr = W) (fun _ _ _ => 0)
  case atStart => exact ⟨rfl, rfl, rfl⟩
  case round =>
    obtain ⟨rfl, rfl, rfl⟩ := hrel
    go_wp2
    go_ret
    exact ⟨rfl, rfl⟩
theorem runs_convert {P : Program} {o : Oper} {a : Act} {w w' : World} {v : Value} {t t' : TypeId} {x : Operand} {p : Value} (ho : o.op = .convert t t' x) (hx : a.eval x = p) (h : (convert t t' p).run P w = .ok v w') : Runs P a o w v w' := .inl (exec_convert ho hx h)
/-- What was read of the sectors, in order. -/
def wasCells (bl : List Nat) : List Value := bl.map fun b => .slice (some ⟨b, 0, none⟩) 64 64
structure WasAt (w : World) (N : Nat) (v : Value) (bl : List Nat) (f : Nat → List Int) : Prop where
  row : w.ownsRow N 22 1 v bl.length (wasCells bl)
  secs : ∀ j (hj : j < bl.length), w.heap[bl[j]]? = some (.cells (ints .u8 (f j)) 65 (0, 0)) ∧ N ≤ bl[j]
theorem info22 : (Try.prog.info? 22).map (fun i => (i.zero, i.size, i.bytes)) = some (some (.slice none 0 0), 1, 24) := by kernel_rfl
theorem was_app {w : World} {N : Nat} {v : Value} {bl : List Nat} {f : Nat → List Int} (h : WasAt w N v bl f) (hn : bl.length ≤ 2000) (hN : N ≤ w.heap.size) {b : Nat} (hb : w.heap[b]? = some (.cells (ints .u8 (f bl.length)) 65 (0, 0))) (hNb : N ≤ b) (ty : TypeId) :
    ∃ A c w', (Builtin.append_ #[39, 39] ty #[v, .slice (some ⟨w.heap.size, 0, none⟩) 1 1]).run Try.prog (w.alloc (.cells #[.slice (some ⟨b, 0, none⟩) 64 64] 22)) = .ok (.slice A (bl.length + 1) c) w' ∧ WasAt w' N (.slice A (bl.length + 1) c) (bl ++ [b]) f ∧ Below N w w' := by
  obtain ⟨i0, hi, hz0, hz1, hz2⟩ := info_parts info22
  obtain ⟨v', w', hrun, hown, hgrow, -, hblk⟩ := run_append_own_at (P := Try.prog) (w.alloc (.cells #[.slice (some ⟨b, 0, none⟩) 64 64] 22)) N 39 ty 22 i0 (.slice none 0 0) 1 24 Try.underlying39 hi hz0 hz1 hz2 rfl (by decide) v bl.length _ (h.row.alloc _) ⟨w.heap.size, 0, none⟩ 1 1 [.slice (some ⟨b, 0, none⟩) 64 64] rfl
    (cell_one_new _ _ _) (fun u hu => by obtain rfl := List.mem_singleton.1 hu; rfl) (by simp only [maxLen]; omega) (by omega) (by simp; omega)
  have hform : ∃ A c, v' = .slice A (bl.length + 1) c := by
    rcases hown.2 with ⟨rfl, hn0⟩ | ⟨g, cap, cur, rfl, _⟩
    · exact absurd hn0 (by omega)
    · exact ⟨_, _, rfl⟩
  obtain ⟨A, c, rfl⟩ := hform
  have hst : ∀ (g : Nat) (cs : Array Value), w.heap[g]? = some (.cells cs 65 (0, 0)) → w'.heap[g]? = some (.cells cs 65 (0, 0)) := fun g cs hg => (hgrow.block g (blk_lt (blk_alloc hg _)) (fun e => by
    obtain ⟨cl, hh⟩ := ownsRow_type h.row e.symm
    exact absurd (blk_type hg hh) (by decide))).trans (blk_alloc hg _)
  refine ⟨A, c, w', hrun, ⟨?_, fun j hj => ?_⟩, ?_⟩
  · have e1 : (bl ++ [b]).length = bl.length + 1 := by simp
    have e2 : wasCells (bl ++ [b]) = wasCells bl ++ [.slice (some ⟨b, 0, none⟩) 64 64] := by simp [wasCells]
    rw [e1, e2]
    exact hown
  · by_cases hjl : j < bl.length
    · rw [List.getElem_append_left hjl]
      exact ⟨hst _ _ (h.secs j hjl).1, (h.secs j hjl).2⟩
    · rw [List.length_append] at hj
      have : j = bl.length := by simp at hj; omega
      subst this
      rw [List.getElem_append_right (Nat.le_refl _)]
      simp only [Nat.sub_self, List.getElem_cons_zero]
      exact ⟨hst _ _ hb, hNb⟩
  · have hb0 : Below N w (w.alloc (.cells #[.slice (some ⟨b, 0, none⟩) 64 64] 22)) := (Below.refl _ _).alloc hN _
    exact hb0.trans ⟨hgrow.os, hgrow.tape, hgrow.output, hgrow.size, fun k hk => by
      by_cases hk2 : k < (w.alloc (.cells #[.slice (some ⟨b, 0, none⟩) 64 64] 22)).heap.size
      · exact hgrow.block k hk2 (fun e => by have := (h.row.lt k e.symm).1; omega)
      · have : N ≤ (w.alloc (.cells #[.slice (some ⟨b, 0, none⟩) 64 64] 22)).heap.size := by simp; omega
        omega⟩
end Go.Proofs.Ytpllifppjlakpaa.Dk
