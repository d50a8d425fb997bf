/-
  disk: DiskActs: the law's walk: for any number of sectors and any calls the law returns true, and nothing that was there is turned.
-/
import Derived.Test.YtpllifppjlakpaaDlI
namespace Go.Proofs.Ytpllifppjlakpaa.Dk
open Go.RowKit Go.Shelf Go.Proofs.Ytpllifppjlakpaa
attribute [local go_sem] Oper.semAt_some
set_option linter.unusedVariables false
set_option linter.unusedSimpArgs false
set_option maxHeartbeats 4000000 in
theorem acts_law (W : World) (k : Int) (hk : -9223372036854775808 ≤ k ∧ k ≤ 9223372036854775807) (A' : Option Addr) (n c' : Nat) (l : List ActV) (hl : ActsAt W A' n l) (hnc : n ≤ c') :
    Calls Try.prog 5 #[.int .i64 k, .slice A' n c'] W fun e W' => e = .returned (.bool true) ∧ Below W.heap.size W W' := by
  have hre := hl.reach
  have hlen := hl.len
  go_enter Try.func5, Try.ntmps5
  go_wp2_with fail
  refine (awake_any _).mono ?_
  rintro e W1 ⟨rfl, hB1⟩
  have hfew := few_any (hl.below hB1) hnc
  have hce := hl.cells
  have hok := hl.ok
  rcases (by omega : (60 < k ∧ k < 2000) ∨ 2000 ≤ k ∨ k ≤ 60) with ⟨h1, h2⟩ | h1 | h1
  · clear hce hok hl hfew
    go_wp2_with fail
    go_ret
    exact ⟨rfl, hB1⟩
  · have h2 : ¬ k < 2000 := by omega
    have h3 : 60 < k := by omega
    clear hce hok hl
    go_wp2_with fail
    refine hfew.mono ?_
    rintro e W2 ⟨hB2, few, rfl⟩
    have hB2 := hB1.trans (hB2.mono hB1.size)
    cases few
    · go_wp2_with fail
      go_ret
      exact ⟨rfl, hB2⟩
    · clear hfew
      go_wp2_with fail
      refine (new_any k (by omega) hk.2 W2).mono ?_
      rintro e W3 ⟨hB3, d, F, rfl, hF, x3⟩
      have hB3 := hB2.trans (hB3.mono hB2.size)
      have hln := len_any x3
      have hn : (newDk k).n = 2000 := by show (min (max k 0) 2000).toNat = 2000; omega
      rw [hn] at hln
      clear hn x3 hF
      go_wp2_with fail
      refine hln.mono ?_
      rintro e W4 ⟨rfl, rfl⟩
      clear hln
      go_wp2_with fail
      go_ret
      exact ⟨rfl, hB3⟩
  · have h2 : ¬ 60 < k := by omega
    have h3 : ¬ 2000 ≤ k := by omega
    have h4 : k < 2000 := by omega
    go_wp2_with fail
    refine hfew.mono ?_
    rintro e W2 ⟨hB2, few, rfl⟩
    have hB2 := hB1.trans (hB2.mono hB1.size)
    cases few
    · go_wp2_with fail
      go_ret
      exact ⟨rfl, hB2⟩
    · clear hfew hB1
      go_wp2_with fail
      refine (new_any k hk.1 hk.2 W2).mono ?_
      rintro e W3 ⟨hB3, d, F, rfl, hF, x3⟩
      have hB03 := hB2.trans (hB3.mono hB2.size)
      go_wp2_with fail
      refine (rnew_any k (by omega) W3).mono ?_
      rintro e W4 ⟨hB4, r, G, rfl, hG, y4⟩
      have hB04 := hB03.trans (hB4.mono hB03.size)
      have hboth : Both W W4 d r (newDk k) := ⟨hB04, F, G, x3.below hB4, y4, fun b h h' => by have := x3.2.1 b h; have := hG b h'; omega, fun b h => Nat.le_trans hB2.size (hF b h), fun b h => Nat.le_trans hB03.size (hG b h)⟩
      clear hB2 hB3 hB4 hB03 hB04 hF hG x3 y4
      go_wp2_with fail
      go_loopw [42] (fun v wr => ∃ i : Nat, i ≤ n ∧ v = .int .i64 i ∧ ∃ s, Holds s ∧ s.Q.length ≤ i ∧ Both W wr d r s) (fun v _ => n - (intOf v).toNat)
      case atStart => exact ⟨0, Nat.zero_le _, rfl, _, new_holds rfl rfl, Nat.zero_le _, hboth⟩
      case round =>
        clear hboth
        obtain ⟨i, hi, rfl, s, hh, hq, hboth⟩ := hrel
        by_cases hlt : i < n
        · obtain ⟨b, off, rfl, hbl, hrg⟩ := hce (by omega)
          have hr := range_below (hrg i (by omega)) hboth.below hbl
          have ha := hok l[i] (List.getElem_mem (by omega))
          generalize l[i] = a at hr ha
          have ho := cells_one a
          have hbe := hboth.keep ((Below.refl _ _).alloc (Nat.le_refl _) (.cells a.cells.toArray 32))
          have hrw : (wr.alloc (.cells a.cells.toArray 32)).rangeAt wr.heap.size 0 a.cells := fun j v hv => by
            rw [cell_of_row _ _ _ _ _ _ (heap_alloc_last wr (.cells a.cells.toArray 32)), Nat.zero_add]
            simpa using hv
          have hst := lact_any hbe hh (by omega) ha
          obtain ⟨-, F0, G0, x0, -⟩ := id hbe
          obtain ⟨hh', hq'⟩ := step_keeps x0.1 hh a ha.bytes.2.1
          clear hrg hce hok hl hboth x0 F0 G0 ha hbe
          generalize stepDk s a = s' at hst hh' hq'
          have hq2 : s'.Q.length ≤ i + 1 := by omega
          clear hh hq hq'
          go_wp2_with (first | (refine wpList_load_mid rfl 32 (.tmp 44) rfl b (off + i * 7) rfl _ _ hr Try.underlying32 rfl (size32 rfl) ?_) | (refine wpL_store (by rfl) 32 (.tmp 9) (.tmp 45) rfl wr.heap.size a.cells.toArray rfl rfl 32 _ (heap_alloc_last wr _) (size32 rfl) rfl (all_oneCell_toArray ho) ?_; rw [setRow_last _ _ _ _ _ rfl]) | (refine wpList_load_mid rfl 32 (.tmp 9) rfl wr.heap.size 0 rfl _ _ hrw Try.underlying32 rfl (size32 rfl) ?_))
          clear hr hrw ho
          refine hst.mono ?_
          rintro e W7 ⟨rfl, h7⟩
          obtain ⟨hB7, F7, G7, x7, y7, a7, f7, g7⟩ := id h7
          have hal := alike_any x7 y7
          clear hst
          clear x7 y7 hB7 a7 f7 g7
          go_wp2_with fail
          refine hal.mono ?_
          rintro e W8 ⟨rfl, hB8⟩
          have h8 := h7.keep hB8
          clear hal h7 hB8
          go_wp2_with fail
          exact ⟨⟨i + 1, by omega, by go_num, s', hh', hq2, h8⟩, by simp [intOf]; omega⟩
        · obtain rfl : i = n := by omega
          have hB := hboth.below
          clear hboth hh hq hce hok hl
          go_wp2_with fail
          go_ret
          exact ⟨rfl, hB⟩
end Go.Proofs.Ytpllifppjlakpaa.Dk
namespace Go.Proofs.Ytpllifppjlakpaa
open Go.RowKit
theorem diskActs_walk (W : World) (k : Int) (wf : (Lit.int .i64 k).wf = true) (A' : Option Addr) (n c' : Nat) (l : List Dk.ActV) (hl : Dk.ActsAt W A' n l) (hnc : n ≤ c') :
    Calls Try.prog 5 #[.int .i64 k, .slice A' n c'] W fun e W' => e = .returned (.bool true) ∧ Below W.heap.size W W' := Dk.acts_law W k (Dk.wf64 wf) A' n c' l hl hnc
end Go.Proofs.Ytpllifppjlakpaa
