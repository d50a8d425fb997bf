/-
  disk: Waiting of the code.
-/
import Derived.Test.YtpllifppjlakpaaDlC
namespace Go.Proofs.Ytpllifppjlakpaa.Dk
open Go.RowKit Go.Shelf Go.Proofs.Ytpllifppjlakpaa
attribute [local go_sem] Oper.semAt_some
set_option linter.unusedVariables false
set_option linter.unusedSimpArgs false
theorem clip_any (A : Option Addr) (n c : Nat) (hc : n ≤ c) (hn : n ≤ 1954687338211) (hA : A = none → n = 0 ∧ c = 0) (W : World) :
    Calls Try.prog 31 #[.slice A n c] W fun e W' => (e = .returned (.slice A n n)) ∧ W = W' := by
  cases A with
  | none =>
    obtain ⟨rfl, rfl⟩ := hA rfl
    clear hA
    go_enter Try.func31, Try.ntmps31
    go_wp2_with fail
    go_ret
    exact ⟨rfl, rfl⟩
  | some a =>
    clear hA
    go_enter Try.func31, Try.ntmps31
    go_wp2_with fail
    go_ret
    exact ⟨rfl, rfl⟩
theorem row_none {W : World} {A : Option Addr} {m c n : Nat} {xs : List Value} {b0 e sz : Nat} (h : W.ownsRow b0 e sz (.slice A m c) n xs) (hA : A = none) : m = 0 ∧ c = 0 := by
  rcases h.2 with ⟨hv, hn⟩ | ⟨g, cap, cur, hv, _⟩
  · injection hv with _ h1 h2
    exact ⟨h1, h2⟩
  · injection hv with h1 _ _
    rw [hA] at h1
    cases h1
set_option maxHeartbeats 1000000 in
theorem waiting_any {F : Nat → Prop} {W : World} {d : Nat} {s : Dk} (h : DiskAt F W d s) :
    Calls Try.prog 17 #[.pointer (some ⟨d, 0, none⟩)] W fun e W' => Below W.heap.size W W' ∧ WaitsAs W W' e s := by
  obtain ⟨h0, h1, h2, gL, gM, vQ, a1, a2, a3, a4, a5, a6, a7⟩ := id h
  obtain ⟨AQ, cQ, rfl, hcQ⟩ := slice_form a7
  obtain ⟨c0, c1, c2, c3, c4, c5⟩ := six a4
  have hroom := h0.room
  have hQs : ∀ q ∈ s.Q, isSec q.2 := fun q hq => (h0.queue q hq).2
  have HQ := Lib.hid hQs
  have H7 := Lib.hid a7
  clear h0 h1 h2 a1 a2 a3 a5 a6 a7 h hQs
  go_enter Try.func17, Try.ntmps17
  go_wp2_with fail
  clear c0 c1 c2 c3 c4 c5 a4
  go_loopw [3, 14] (fun v3 v wr => ∃ i : Nat, i ≤ s.Q.length ∧ v = .int .i64 i ∧ wr.ownsRow W.heap.size 3 1 v3 i ((waitN (s.Q.take i)).map (Value.int .i64)) ∧ Below W.heap.size W wr) (fun _ v _ => s.Q.length - (intOf v).toNat)
  case atStart => exact ⟨0, Nat.zero_le _, rfl, World.ownsRow_nil _ _ _ _, Below.refl _ _⟩
  case round =>
    obtain ⟨i, hile, rfl, ho, hb⟩ := hrel
    by_cases hlt : i < s.Q.length
    · have b7 := H7.out
      obtain ⟨gq, rfl⟩ : ∃ gq, AQ = some ⟨gq, 0, none⟩ := by
        rcases b7.2 with ⟨hv, _⟩ | ⟨g, cap, cur, hv, _⟩
        · injection hv with e1 e2 _
          omega
        · injection hv with e1 _ _
          exact ⟨g, e1⟩
      have dq := wait_range (ownsRow_same b7 (fun k hk' hl => hb.block k hl)) HQ.out rfl i hlt
      have hwl := waitCells_length _ (HQ.out _ (List.getElem_mem hlt))
      have hw1 := waitCells_one s.Q[i]
      have Hwn := Lib.hid (waitN_take hlt)
      obtain ⟨f68, hu68⟩ := under68
      have Hu := Lib.hid hu68
      clear hu68 b7
      generalize s.Q[i] = q at dq hwl hw1 Hwn
      obtain ⟨Z, hZs, z68⟩ := zero68
      have hq0 : (wr.alloc (.cells (waitCells q).toArray 68)).cell? ⟨wr.heap.size, 0, none⟩ = some (.int .i64 (q.1 : Int)) := cell_of_row _ _ 0 _ _ _ (heap_alloc_last wr _)
      have ho1 := ho.alloc (.cells (waitCells q).toArray 68)
      obtain ⟨A, c, w', hrun, hown, hbel⟩ := int_app ho1 (by omega) (by have := hb.size; simp; omega) (q.1 : Int) 43 (wr.heap.size + 1) (by simp)
      have hsz : (wr.alloc (.cells (waitCells q).toArray 68)).heap.size = wr.heap.size + 1 := by simp
      have hB : Below W.heap.size W w' := (hb.alloc hb.size _).trans hbel
      have Hq0 := Lib.hid hq0
      clear ho ho1 hq0
      go_wp2_with (first | (refine wpList_load_mid rfl 68 (.tmp 16) rfl gq (i * 65) rfl _ _ dq Hu.out rfl (size68 hwl) ?_) | (refine wpL_store (by rfl) 68 (.tmp 5) (.tmp 17) rfl wr.heap.size (waitCells q).toArray rfl rfl 68 _ (heap_alloc_last wr _) (size68 (by simpa using hwl)) (by rw [hZs]; simpa using hwl.symm) (all_oneCell_toArray hw1) ?_; rw [setRow_last _ _ _ _ _ rfl]; have hq0 := Hq0.out; generalize wr.alloc (.cells (waitCells q).toArray 68) = W3 at hq0 hrun hbel Hq0 hsz ⊢) | (refine list_runs (by rfl) (runs_append rfl rfl rfl hrun) ?_))
      refine ⟨⟨i + 1, by omega, by go_num, ?_, hB⟩, by simp [intOf]; omega⟩
      rw [Hwn.out, List.map_append]
      exact hown
    · obtain rfl : i = s.Q.length := by omega
      obtain ⟨A, c, rfl, hc⟩ := slice_form ho
      rw [List.take_length] at ho
      have hN := nums_row ho
      have hcl := clip_any A s.Q.length c hc hroom (fun e => row_none ho e)
      clear ho
      go_wp2_with fail
      refine (hcl _).mono ?_
      rintro e W' ⟨rfl, rfl⟩
      go_wp2_with fail
      go_ret
      exact ⟨hb, A, s.Q.length, rfl, Nat.le_refl _, hN⟩
end Go.Proofs.Ytpllifppjlakpaa.Dk
