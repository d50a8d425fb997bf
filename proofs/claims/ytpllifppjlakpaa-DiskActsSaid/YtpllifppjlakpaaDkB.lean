/-
  disk: up, Len, Acts, Down, act, Arm.
-/
import Derived.Test.YtpllifppjlakpaaDkA
namespace Go.Proofs.Ytpllifppjlakpaa.Dk
open Go.RowKit Go.Shelf Go.Proofs.Ytpllifppjlakpaa
attribute [local go_sem] Oper.semAt_some
set_option linter.unusedVariables false
set_option linter.unusedSimpArgs false

theorem map_ne (g : Nat) (W : World) : (binOp .neq 53 (.map (some g)) (.map none)).run Try.prog W = .ok (.bool true) W := by kernel_rfl
theorem map_eq (g : Nat) (W : World) : (binOp .eql 53 (.map (some g)) (.map none)).run Try.prog W = .ok (.bool false) W := by kernel_rfl
theorem nil_ne (W : World) : (binOp .neq 53 (.map none) (.map none)).run Try.prog W = .ok (.bool false) W := by kernel_rfl
theorem nil_eq (W : World) : (binOp .eql 53 (.map none) (.map none)).run Try.prog W = .ok (.bool true) W := by kernel_rfl
theorem blk_type {W : World} {b : Nat} {cs cs' : Array Value} {t t' : TypeId} (h : W.heap[b]? = some (.cells cs t (0, 0))) (h' : W.heap[b]? = some (.cells cs' t' (0, 0))) : t = t' := by
  rw [h] at h'
  injection h' with h'
  injection h'
theorem CacheAt.ne {W : World} {g n : Nat} {C : Int → Option (List Int)} (h : CacheAt W g n C) {b : Nat} {cs : Array Value} {t : TypeId} (hb : W.heap[b]? = some (.cells cs t (0, 0))) : g ≠ b := fun e => by
  obtain ⟨D, ⟨es, clock, h1, h2⟩, h3⟩ := h
  rw [e, hb] at h1
  cases h1
theorem ownsRow_type {W : World} {v : Value} {n : Nat} {cs : List Value} {b0 e sz : Nat} (h : W.ownsRow b0 e sz v n cs) {k : Nat} (hk : v.ownBlock = some k) : ∃ cells, W.heap[k]? = some (.cells cells e (0, 0)) := by
  rcases h.2 with ⟨rfl, _⟩ | ⟨g, cap, cur, rfl, hg, hh, r⟩
  · simp [Value.ownBlock] at hk
  · have : g = k := by simpa [Value.ownBlock] using hk
    subst this
    exact ⟨cur, hh⟩
/-- The disk's own block is written, no other. -/
theorem DiskAt.head {F : Nat → Prop} {W W' : World} {d : Nat} {s s' : Dk} (h : DiskAt F W d s) (hn : s'.n = s.n) (hL : s'.L = s.L) (hC : s'.C = s.C) (hQ : s'.Q = s.Q) (ha : -1 ≤ s'.armed ∧ s'.armed ≤ 9223372036854775807) (hc : -9223372036854775808 ≤ s'.acts ∧ s'.acts ≤ 9223372036854775807)
    (hd : ∀ v0 v1 v2, W.heap[d]? = some (.cells #[v0, v1, v2, .int .i64 s.armed, .int .i64 s.acts, .bool s.off] 58 (0, 0)) → W'.heap[d]? = some (.cells #[v0, v1, v2, .int .i64 s'.armed, .int .i64 s'.acts, .bool s'.off] 58 (0, 0)))
    (hb : ∀ b, b ≠ d → W'.heap[b]? = W.heap[b]?) (hs : W.heap.size ≤ W'.heap.size) : DiskAt F W' d s' := by
  obtain ⟨h0, h1, h2, gL, gM, vQ, a1, a2, a3, a4, a5, a6, a7⟩ := h
  refine ⟨⟨by rw [hn]; exact h0.n, by rw [hL, hn]; exact h0.len, by rw [hL]; exact h0.bytes, by rw [hC, hn]; exact h0.cache, by rw [hQ, hn]; exact h0.queue, by rw [hQ]; exact h0.room, ha, hc⟩, fun b hf => Nat.lt_of_lt_of_le (h1 b hf) hs, h2, gL, gM, vQ, a1, a2, a3, ?_, ?_, ?_, ?_⟩
  · rw [hn]; exact hd _ _ _ a4
  · rw [hL, hb gL (fun e => by subst e; exact absurd (blk_type a4 a5) (by decide))]; exact a5
  · rw [hQ, hC]; exact a6.kept hs (hb gM (a6.ne a4))
  · rw [hQ]
    exact ownsRow_same a7 (fun k hk _ => hb k (fun e => by
      subst e
      obtain ⟨cells, hh⟩ := ownsRow_type a7 hk
      exact absurd (blk_type a4 hh) (by decide)))
theorem heap_set2 (w : World) (g i : Nat) (x : Value) (g' : Nat) (h : g' ≠ g) : (w.setCell ⟨g, i, none⟩ x).heap[g']? = w.heap[g']? := heap_setCell_other w _ g' x h
theorem Keeps.refl (F : Nat → Prop) (w : World) : Keeps F w w := ⟨rfl, rfl, rfl, Nat.le_refl _, fun _ _ _ => rfl⟩
theorem Keeps.set {F : Nat → Prop} {w w' : World} (h : Keeps F w w') {g : Nat} (hg : F g) (i : Nat) (x : Value) : Keeps F w (w'.setCell ⟨g, i, none⟩ x) :=
  ⟨h.os, h.tape, h.output, by simpa using h.size, fun k hk hf => (heap_set2 _ _ _ _ _ (fun e => hf (by rw [e]; exact hg))).trans (h.block k hk hf)⟩
theorem Keeps.trans {F G : Nat → Prop} {w w' w'' : World} (h : Keeps F w w') (h' : Keeps G w' w'') (hG : ∀ b, b < w.heap.size → G b → F b) : Keeps F w w'' :=
  ⟨h'.os.trans h.os, h'.tape.trans h.tape, h'.output.trans h.output, Nat.le_trans h.size h'.size, fun k hk hf => (h'.block k (Nat.lt_of_lt_of_le hk h.size) (fun hg => hf (hG k hk hg))).trans (h.block k hk hf)⟩
/-- The six cells of a disk's block. -/
theorem six {W : World} {d : Nat} {v0 v1 v2 v3 v4 v5 : Value} (h : W.heap[d]? = some (.cells #[v0, v1, v2, v3, v4, v5] 58 (0, 0))) :
    W.cell? ⟨d, 0, none⟩ = some v0 ∧ W.cell? ⟨d, 1, none⟩ = some v1 ∧ W.cell? ⟨d, 2, none⟩ = some v2 ∧ W.cell? ⟨d, 3, none⟩ = some v3 ∧ W.cell? ⟨d, 4, none⟩ = some v4 ∧ W.cell? ⟨d, 5, none⟩ = some v5 :=
  ⟨cell_of_row W _ 0 _ _ _ h, cell_of_row W _ 1 _ _ _ h, cell_of_row W _ 2 _ _ _ h, cell_of_row W _ 3 _ _ _ h, cell_of_row W _ 4 _ _ _ h, cell_of_row W _ 5 _ _ _ h⟩
theorem up_any {F : Nat → Prop} {W : World} {d : Nat} {s : Dk} (h : DiskAt F W d s) :
    Calls Try.prog 26 #[.pointer (some ⟨d, 0, none⟩)] W fun e W' => e = .returned (.bool (!s.off)) ∧ W = W' := by
  obtain ⟨h0, h1, h2, gL, gM, vQ, a1, a2, a3, a4, a5, a6, a7⟩ := h
  obtain ⟨c0, c1, c2, c3, c4, c5⟩ := six a4
  have hm := map_ne
  go_enter Try.func26, Try.ntmps26
  cases ho : s.off
  all_goals
    rw [ho] at c5
    go_wp2
    go_ret
    exact ⟨rfl, rfl⟩
theorem len_any {F : Nat → Prop} {W : World} {d : Nat} {s : Dk} (h : DiskAt F W d s) :
    Calls Try.prog 15 #[.pointer (some ⟨d, 0, none⟩)] W fun e W' => e = .returned (.int .i64 s.n) ∧ W = W' := by
  obtain ⟨h0, h1, h2, gL, gM, vQ, a1, a2, a3, a4, a5, a6, a7⟩ := h
  obtain ⟨c0, c1, c2, c3, c4, c5⟩ := six a4
  go_enter Try.func15, Try.ntmps15
  go_wp2
  go_ret
  exact ⟨rfl, rfl⟩
theorem acts_any {F : Nat → Prop} {W : World} {d : Nat} {s : Dk} (h : DiskAt F W d s) :
    Calls Try.prog 24 #[.pointer (some ⟨d, 0, none⟩)] W fun e W' => e = .returned (.int .i64 s.acts) ∧ W = W' := by
  obtain ⟨h0, h1, h2, gL, gM, vQ, a1, a2, a3, a4, a5, a6, a7⟩ := h
  obtain ⟨c0, c1, c2, c3, c4, c5⟩ := six a4
  go_enter Try.func24, Try.ntmps24
  go_wp2
  go_ret
  exact ⟨rfl, rfl⟩
theorem down_any {F : Nat → Prop} {W : World} {d : Nat} {s : Dk} (h : DiskAt F W d s) :
    Calls Try.prog 23 #[.pointer (some ⟨d, 0, none⟩)] W fun e W' => e = .returned (.bool s.off) ∧ W = W' := by
  have hu := up_any h
  go_enter Try.func23, Try.ntmps23
  go_wp2_with fail
  refine hu.mono ?_
  rintro e W' ⟨rfl, rfl⟩
  cases ho : s.off
  all_goals
    go_wp2_with fail
    go_ret
    exact ⟨by rw [ho]; rfl, rfl⟩
def armDk (s : Dk) (k : Int) : Dk := { s with armed := max k (-1) }
theorem arm_any {F : Nat → Prop} {W : World} {d : Nat} {s : Dk} (h : DiskAt F W d s) (k : Int) (hk : k ≤ 9223372036854775807) :
    Calls Try.prog 22 #[.pointer (some ⟨d, 0, none⟩), .int .i64 k] W fun e W' => e = .returned (.tuple #[]) ∧ DiskAt F W' d (armDk s k) ∧ Keeps F W W' := by
  have hF := h.2.2.1
  obtain ⟨h0, h1, h2, gL, gM, vQ, a1, a2, a3, a4, a5, a6, a7⟩ := id h
  obtain ⟨c0, c1, c2, c3, c4, c5⟩ := six a4
  have f3 := frozen_blk a4 3
  have fin : ∀ z, z = max k (-1) → DiskAt F (W.setCell ⟨d, 3, none⟩ (.int .i64 z)) d (armDk s k) := fun z hz => by
    subst hz
    exact h.head rfl rfl rfl rfl ⟨by show -1 ≤ max k (-1); omega, by show max k (-1) ≤ _; omega⟩ h0.acts (fun v0 v1 v2 hh => heap_setCell_same W _ 3 _ 58 _ hh) (fun b hb => heap_set2 _ _ _ _ _ hb) (by simp)
  have kp : ∀ z, Keeps F W (W.setCell ⟨d, 3, none⟩ z) := fun z => (Keeps.refl F W).set hF 3 z
  clear h0 h1 h2 a1 a2 a3 a4 a5 a6 a7 h
  rcases (by omega : k < -1 ∨ -1 ≤ k) with hk1 | hk1
  · go_enter Try.func22, Try.ntmps22
    go_wp2
    go_end0
    exact ⟨rfl, fin _ (by omega), kp _⟩
  · have hk2 : ¬ k < -1 := by omega
    go_enter Try.func22, Try.ntmps22
    go_wp2
    go_end0
    exact ⟨rfl, fin _ (by omega), kp _⟩
def actDk (s : Dk) : Dk := if s.armed = 0 then { s with off := true } else { s with armed := max (s.armed - 1) (-1), acts := wrap64 (s.acts + 1) }
set_option maxHeartbeats 1000000 in
theorem act_any {F : Nat → Prop} {W : World} {d : Nat} {s : Dk} (h : DiskAt F W d s) :
    Calls Try.prog 27 #[.pointer (some ⟨d, 0, none⟩)] W fun e W' => e = .returned (.bool (decide (s.armed ≠ 0))) ∧ DiskAt F W' d (actDk s) ∧ Keeps F W W' := by
  have hF := h.2.2.1
  obtain ⟨h0, h1, h2, gL, gM, vQ, a1, a2, a3, a4, a5, a6, a7⟩ := id h
  obtain ⟨c0, c1, c2, c3, c4, c5⟩ := six a4
  have f3 := frozen_blk a4 3
  have f4 := frozen_blk a4 4
  have f5 := frozen_blk a4 5
  by_cases hz : s.armed = 0
  · have hs : actDk s = { s with off := true } := if_pos hz
    have hdec : decide (s.armed ≠ 0) = false := decide_eq_false (fun hh => hh hz)
    have fin : DiskAt F (W.setCell ⟨d, 5, none⟩ (.bool true)) d (actDk s) := by
      rw [hs]
      exact h.head rfl rfl rfl rfl h0.armed h0.acts (fun v0 v1 v2 hh => heap_setCell_same W _ 5 _ 58 _ hh) (fun b hb => heap_set2 _ _ _ _ _ hb) (by simp)
    have kp : Keeps F W (W.setCell ⟨d, 5, none⟩ (.bool true)) := (Keeps.refl F W).set hF 5 _
    rw [hdec]
    rw [hz] at c3
    clear h0 h1 h2 a1 a2 a3 a4 a5 a6 a7 h hs hdec
    go_enter Try.func27, Try.ntmps27
    go_wp2
    go_ret
    exact ⟨rfl, fin, kp⟩
  · have hs : actDk s = { s with armed := max (s.armed - 1) (-1), acts := wrap64 (s.acts + 1) } := if_neg hz
    have hdec : decide (s.armed ≠ 0) = true := decide_eq_true hz
    have hw : wrap64 (s.armed - 1) = s.armed - 1 := wrap64_of (by have := h0.armed; omega) (by have := h0.armed; omega)
    have hwr : -9223372036854775808 ≤ wrap64 (s.acts + 1) ∧ wrap64 (s.acts + 1) ≤ 9223372036854775807 := by unfold wrap64; omega
    have fin : ∀ z, z = max (s.armed - 1) (-1) → DiskAt F ((W.setCell ⟨d, 3, none⟩ (.int .i64 z)).setCell ⟨d, 4, none⟩ (.int .i64 (wrap64 (s.acts + 1)))) d (actDk s) := fun z hz => by
      subst hz
      rw [hs]
      refine h.head rfl rfl rfl rfl ⟨by show -1 ≤ max (s.armed - 1) (-1); omega, by show max (s.armed - 1) (-1) ≤ _; have := h0.armed; omega⟩ hwr (fun v0 v1 v2 hh => ?_) (fun b hb => ?_) (by simp)
      · exact heap_setCell_same _ _ 4 _ 58 _ (heap_setCell_same W _ 3 _ 58 _ hh)
      · exact (heap_set2 _ _ _ _ _ hb).trans (heap_set2 _ _ _ _ _ hb)
    have kp : ∀ z z', Keeps F W ((W.setCell ⟨d, 3, none⟩ z).setCell ⟨d, 4, none⟩ z') := fun z z' => ((Keeps.refl F W).set hF 3 z).set hF 4 z'
    have hb0 : (s.armed == 0) = false := beq_eq_false_iff_ne.2 hz
    have har := h0.armed
    rw [hdec]
    clear h0 h1 h2 a1 a2 a3 a4 a5 a6 a7 h hs hdec hwr
    generalize s.armed = ar at *
    generalize s.acts = ac at *
    rcases (by omega : ar - 1 < -1 ∨ -1 ≤ ar - 1) with hk1 | hk1
    · go_enter Try.func27, Try.ntmps27
      go_wp2
      go_ret
      exact ⟨rfl, fin _ (by omega), kp _ _⟩
    · have hk2 : ¬ ar - 1 < -1 := by omega
      go_enter Try.func27, Try.ntmps27
      go_wp2
      go_ret
      exact ⟨rfl, fin _ (by omega), kp _ _⟩
end Go.Proofs.Ytpllifppjlakpaa.Dk
