/-
  disk: the reference's disk in memory; has, act, Arm.
-/
import Derived.Test.YtpllifppjlakpaaDkS
namespace Go.Proofs.Ytpllifppjlakpaa.Dk
open Go.RowKit Go.Shelf Go.Proofs.Ytpllifppjlakpaa
attribute [local go_sem] Oper.semAt_some
set_option linter.unusedVariables false
set_option linter.unusedSimpArgs false
def hval (h : Nat × Nat) : Value := .slice (some ⟨h.1, 0, none⟩) 64 h.2
def wval (p : Nat × (Nat × Nat)) : List Value := [.int .i64 (p.1 : Int), hval p.2]
/-- A sector's bytes at the head of a block. -/
def Sec5 (W : World) (h : Nat × Nat) (x : List Int) : Prop := isSec x ∧ (64 ≤ h.2 ∧ h.2 ≤ 9223372036854775807) ∧ ∃ cells, W.heap[h.1]? = some (.cells cells 5 (0, 0)) ∧ ∀ i, i < 64 → cells[i]? = some (.int .u8 (x[i]?.getD 0))
theorem Sec5.keep {W W' : World} {h : Nat × Nat} {x : List Int} (hh : Sec5 W h x) (hb : W'.heap[h.1]? = W.heap[h.1]?) : Sec5 W' h x := by
  obtain ⟨h1, h2, cells, h3, h4⟩ := hh
  exact ⟨h1, h2, cells, hb.trans h3, h4⟩
theorem Sec5.lt {W : World} {h : Nat × Nat} {x : List Int} (hh : Sec5 W h x) : h.1 < W.heap.size := by
  obtain ⟨h1, h2, cells, h3, h4⟩ := hh
  exact blk_lt h3
theorem Sec5.bytes {W : World} {h : Nat × Nat} {x : List Int} (hh : Sec5 W h x) : BytesAt W W.heap.size (some ⟨h.1, 0, none⟩) 64 x := by
  have hlt := hh.lt
  obtain ⟨h1, h2, cells, h3, h4⟩ := hh
  exact ⟨h1.1, h1.2, fun _ => ⟨h.1, 0, rfl, hlt, fun i hi => by rw [Nat.zero_add, cell_of_row W _ _ _ _ _ h3]; exact h4 i hi⟩⟩
theorem Sec5.ne {W : World} {h : Nat × Nat} {x : List Int} (hh : Sec5 W h x) {b : Nat} {cs : Array Value} {t : TypeId} (hb : W.heap[b]? = some (.cells cs t (0, 0))) (ht : t ≠ 5) : h.1 ≠ b := fun e => by
  obtain ⟨h1, h2, cells, h3, h4⟩ := hh
  rw [e] at h3
  exact ht (blk_type hb h3)
theorem sec5_own {W : World} {base : Nat} {A : Option Addr} {c : Nat} {x : List Int} (ho : OwnBytes W base (.slice A 64 c) x) (hx : isSec x) : ∃ g, A = some ⟨g, 0, none⟩ ∧ base ≤ g ∧ Sec5 W (g, c) x := by
  rcases ho.2 with ⟨hv, hn⟩ | ⟨g, cap, cur, hv, hbg, hh, hnc, hcm, hcs, htake⟩
  · rw [hx.1] at hn; cases hn
  · injection hv with e1 e2 e3
    subst e1; subst e3
    refine ⟨g, rfl, hbg, hx, ⟨by rw [hx.1] at hnc; exact hnc, hcm⟩, cur, hh, fun i hi => ?_⟩
    rw [hx.1] at htake
    have hx64 : i < x.length := by rw [hx.1]; exact hi
    have h1 : (cur.toList.take (64 * 1))[i]? = some (.int .u8 (x[i]?.getD 0)) := by
      rw [htake, List.getElem?_map, List.getElem?_eq_getElem hx64]
      rfl
    rw [List.getElem?_take_of_lt (by omega), Array.getElem?_toList] at h1
    exact h1
structure RefIn (G : Nat → Prop) (W : World) (s : Dk) (vS vW : Value) (hs : List (Nat × Nat)) (ws : List (Nat × (Nat × Nat))) : Prop where
  gS : ∀ k, vS.ownBlock = some k → G k
  gW : ∀ k, vW.ownBlock = some k → G k
  row : W.ownsRow 0 22 1 vS s.n (hs.map hval)
  hlen : hs.length = s.n
  secs : ∀ j (hj : j < hs.length), Sec5 W hs[j] (secOf s.L j) ∧ G hs[j].1
  wrow : W.ownsRow 0 81 2 vW s.Q.length (ws.flatMap wval)
  wlen : ws.length = s.Q.length
  wsecs : ∀ j (hj : j < ws.length) (hj2 : j < s.Q.length), ws[j].1 = s.Q[j].1 ∧ Sec5 W ws[j].2 s.Q[j].2 ∧ G ws[j].2.1
def RefAt (G : Nat → Prop) (W : World) (d : Nat) (s : Dk) : Prop :=
  DkOk s ∧ (∀ b, G b → b < W.heap.size) ∧ G d ∧ ∃ vS vW hs ws, W.heap[d]? = some (.cells #[vS, vW, .int .i64 s.armed, .bool s.off, .int .i64 s.acts] 74 (0, 0)) ∧ RefIn G W s vS vW hs ws
theorem RefIn.keep {G : Nat → Prop} {W W' : World} {s : Dk} {vS vW : Value} {hs : List (Nat × Nat)} {ws : List (Nat × (Nat × Nat))} (h : RefIn G W s vS vW hs ws) {d : Nat} {cs : Array Value} (hd : W.heap[d]? = some (.cells cs 74 (0, 0))) (hb : ∀ b, G b → b ≠ d → W'.heap[b]? = W.heap[b]?) : RefIn G W' s vS vW hs ws :=
  ⟨h.gS, h.gW, ownsRow_same h.row (fun k hk _ => hb k (h.gS k hk) (fun e => by subst e; obtain ⟨cl, hh⟩ := ownsRow_type h.row hk; exact absurd (blk_type hd hh) (by decide))), h.hlen,
    fun j hj => ⟨(h.secs j hj).1.keep (hb _ (h.secs j hj).2 ((h.secs j hj).1.ne hd (by decide))), (h.secs j hj).2⟩,
    ownsRow_same h.wrow (fun k hk _ => hb k (h.gW k hk) (fun e => by subst e; obtain ⟨cl, hh⟩ := ownsRow_type h.wrow hk; exact absurd (blk_type hd hh) (by decide))), h.wlen,
    fun j hj hj2 => ⟨(h.wsecs j hj hj2).1, (h.wsecs j hj hj2).2.1.keep (hb _ (h.wsecs j hj hj2).2.2 ((h.wsecs j hj hj2).2.1.ne hd (by decide))), (h.wsecs j hj hj2).2.2⟩⟩
theorem RefAt.keep {G : Nat → Prop} {W W' : World} {d : Nat} {s : Dk} (h : RefAt G W d s) (hs : W.heap.size ≤ W'.heap.size) (hb : ∀ b, G b → W'.heap[b]? = W.heap[b]?) : RefAt G W' d s := by
  obtain ⟨h0, h1, h2, vS, vW, hs', ws, hd, hi⟩ := h
  exact ⟨h0, fun b hg => Nat.lt_of_lt_of_le (h1 b hg) hs, h2, vS, vW, hs', ws, (hb d h2).trans hd, hi.keep hd (fun b hg _ => hb b hg)⟩
theorem RefAt.below {G : Nat → Prop} {W W' : World} {d : Nat} {s : Dk} (h : RefAt G W d s) (hb : Below W.heap.size W W') : RefAt G W' d s := h.keep hb.size (fun b hg => hb.block b (h.2.1 b hg))
theorem RefAt.apart {G F : Nat → Prop} {W W' : World} {d : Nat} {s : Dk} (h : RefAt G W d s) (hk : Keeps F W W') (hd : ∀ b, G b → ¬ F b) : RefAt G W' d s := h.keep hk.size (fun b hg => hk.block b (h.2.1 b hg) (hd b hg))
theorem five {W : World} {d : Nat} {v0 v1 v2 v3 v4 : Value} (h : W.heap[d]? = some (.cells #[v0, v1, v2, v3, v4] 74 (0, 0))) :
    W.cell? ⟨d, 0, none⟩ = some v0 ∧ W.cell? ⟨d, 1, none⟩ = some v1 ∧ W.cell? ⟨d, 2, none⟩ = some v2 ∧ W.cell? ⟨d, 3, none⟩ = some v3 ∧ W.cell? ⟨d, 4, none⟩ = some v4 :=
  ⟨cell_of_row W _ 0 _ _ _ h, cell_of_row W _ 1 _ _ _ h, cell_of_row W _ 2 _ _ _ h, cell_of_row W _ 3 _ _ _ h, cell_of_row W _ 4 _ _ _ h⟩
/-- The head's numbers are written, nothing else. -/
theorem RefAt.head {G : Nat → Prop} {W W' : World} {d : Nat} {s s' : Dk} (h : RefAt G W d s) (hn : s'.n = s.n) (hL : s'.L = s.L) (hQ : s'.Q = s.Q) (hok : DkOk s')
    (hd : ∀ v0 v1, W.heap[d]? = some (.cells #[v0, v1, .int .i64 s.armed, .bool s.off, .int .i64 s.acts] 74 (0, 0)) → W'.heap[d]? = some (.cells #[v0, v1, .int .i64 s'.armed, .bool s'.off, .int .i64 s'.acts] 74 (0, 0)))
    (hb : ∀ b, b ≠ d → W'.heap[b]? = W.heap[b]?) (hs : W.heap.size ≤ W'.heap.size) : RefAt G W' d s' := by
  obtain ⟨h0, h1, h2, vS, vW, hs', ws, hdd, hi⟩ := h
  have hk := hi.keep hdd (fun b _ hne => hb b hne)
  refine ⟨hok, fun b hg => Nat.lt_of_lt_of_le (h1 b hg) hs, h2, vS, vW, hs', ws, hd _ _ hdd, ⟨hk.gS, hk.gW, by rw [hn]; exact hk.row, by rw [hn]; exact hk.hlen, fun j hj => by rw [hL]; exact hk.secs j hj, by rw [hQ]; exact hk.wrow, by rw [hQ]; exact hk.wlen, fun j hj hj2 => ?_⟩⟩
  have hj2' : j < s.Q.length := by rw [← hQ]; exact hj2
  have := hk.wsecs j hj hj2'
  simp only [hQ]
  exact this
theorem has_any {G : Nat → Prop} {W : World} {d : Nat} {s : Dk} (h : RefAt G W d s) (n : Int) :
    Calls Try.prog 39 #[.pointer (some ⟨d, 0, none⟩), .int .i64 n] W fun e W' => e = .returned (.bool (decide (0 ≤ n ∧ n < (s.n : Int)))) ∧ W = W' := by
  obtain ⟨h0, h1, h2, vS, vW, hs, ws, hd, hi⟩ := id h
  obtain ⟨c0, -⟩ := five hd
  have hA : ∃ A c, vS = .slice A s.n c := by
    rcases hi.row.2 with ⟨rfl, hn0⟩ | ⟨g, cap, cur, rfl, _⟩
    · exact ⟨none, 0, by rw [hn0]⟩
    · exact ⟨_, _, rfl⟩
  obtain ⟨A, c, rfl⟩ := hA
  clear h0 h1 h2 hi hd h
  rcases (by omega : n < 0 ∨ (0 ≤ n ∧ n < (s.n : Int)) ∨ (0 ≤ n ∧ (s.n : Int) ≤ n)) with h1 | ⟨h1, h2⟩ | ⟨h1, h2⟩
  · rw [decide_eq_false (by omega)]
    have e1 : ¬ 0 ≤ n := by omega
    go_enter Try.func39, Try.ntmps39
    go_wp2
    go_ret
    exact ⟨rfl, rfl⟩
  · rw [decide_eq_true ⟨h1, h2⟩]
    go_enter Try.func39, Try.ntmps39
    go_wp2
    go_ret
    exact ⟨rfl, rfl⟩
  · rw [decide_eq_false (by omega)]
    have e2 : ¬ n < (s.n : Int) := by omega
    go_enter Try.func39, Try.ntmps39
    go_wp2
    go_ret
    exact ⟨rfl, rfl⟩
theorem rarm_any {G : Nat → Prop} {W : World} {d : Nat} {s : Dk} (h : RefAt G W d s) (k : Int) (hk : k ≤ 9223372036854775807) :
    Calls Try.prog 34 #[.pointer (some ⟨d, 0, none⟩), .int .i64 k] W fun e W' => e = .returned (.tuple #[]) ∧ RefAt G W' d (armDk s k) ∧ Keeps G W W' := by
  have hG := h.2.2.1
  obtain ⟨h0, h1, h2, vS, vW, hs, ws, hd, hi⟩ := id h
  obtain ⟨c0, c1, c2, c3, c4⟩ := five hd
  have f2 := frozen_blk hd 2
  have fin : ∀ z, z = max k (-1) → RefAt G (W.setCell ⟨d, 2, none⟩ (.int .i64 z)) d (armDk s k) := fun z hz => by
    subst hz
    exact h.head rfl rfl rfl ⟨h0.n, h0.len, h0.bytes, h0.cache, h0.queue, h0.room, ⟨by show -1 ≤ max k (-1); omega, by show max k (-1) ≤ _; omega⟩, h0.acts⟩ (fun v0 v1 hh => heap_setCell_same W _ 2 _ 74 _ hh) (fun b hb => heap_set2 _ _ _ _ _ hb) (by simp)
  have kp : ∀ z, Keeps G W (W.setCell ⟨d, 2, none⟩ z) := fun z => (Keeps.refl G W).set hG 2 z
  clear h0 h1 h2 hi hd h
  rcases (by omega : k < -1 ∨ -1 ≤ k) with hk1 | hk1
  · go_enter Try.func34, Try.ntmps34
    go_wp2
    go_end0
    exact ⟨rfl, fin _ (by omega), kp _⟩
  · have hk2 : ¬ k < -1 := by omega
    go_enter Try.func34, Try.ntmps34
    go_wp2
    go_end0
    exact ⟨rfl, fin _ (by omega), kp _⟩
set_option maxHeartbeats 1000000 in
theorem ract_any {G : Nat → Prop} {W : World} {d : Nat} {s : Dk} (h : RefAt G W d s) :
    Calls Try.prog 40 #[.pointer (some ⟨d, 0, none⟩)] W fun e W' => e = .returned (.int .i64 (if s.armed = 0 then 20 else 0)) ∧ RefAt G W' d (actDk s) ∧ Keeps G W W' := by
  have hG := h.2.2.1
  obtain ⟨h0, h1, h2, vS, vW, hs, ws, hd, hi⟩ := id h
  obtain ⟨c0, c1, c2, c3, c4⟩ := five hd
  have f2 := frozen_blk hd 2
  have f3 := frozen_blk hd 3
  have f4 := frozen_blk hd 4
  by_cases hz : s.armed = 0
  · have hs2 : actDk s = { s with off := true } := if_pos hz
    have fin : RefAt G (W.setCell ⟨d, 3, none⟩ (.bool true)) d (actDk s) := by
      rw [hs2]
      exact h.head rfl rfl rfl ⟨h0.n, h0.len, h0.bytes, h0.cache, h0.queue, h0.room, h0.armed, h0.acts⟩ (fun v0 v1 hh => heap_setCell_same W _ 3 _ 74 _ hh) (fun b hb => heap_set2 _ _ _ _ _ hb) (by simp)
    have kp : Keeps G W (W.setCell ⟨d, 3, none⟩ (.bool true)) := (Keeps.refl G W).set hG 3 _
    rw [if_pos hz]
    rw [hz] at c2
    clear h0 h1 h2 hi hd h hs2
    go_enter Try.func40, Try.ntmps40
    go_wp2
    go_ret
    exact ⟨rfl, fin, kp⟩
  · have hs2 : actDk s = { s with armed := max (s.armed - 1) (-1), acts := wrap64 (s.acts + 1) } := if_neg hz
    have hwr : -9223372036854775808 ≤ wrap64 (s.acts + 1) ∧ wrap64 (s.acts + 1) ≤ 9223372036854775807 := by unfold wrap64; omega
    have hok : DkOk { s with armed := max (s.armed - 1) (-1), acts := wrap64 (s.acts + 1) } := ⟨h0.n, h0.len, h0.bytes, h0.cache, h0.queue, h0.room, ⟨by show -1 ≤ max (s.armed - 1) (-1); omega, by show max (s.armed - 1) (-1) ≤ _; have := h0.armed; omega⟩, hwr⟩
    have har := h0.armed
    have hb0 : (s.armed == 0) = false := beq_eq_false_iff_ne.2 hz
    rw [if_neg hz]
    rcases (by omega : s.armed = -1 ∨ 0 < s.armed) with hm | hm
    · have fin : RefAt G (W.setCell ⟨d, 4, none⟩ (.int .i64 (wrap64 (s.acts + 1)))) d (actDk s) := by
        rw [hs2]
        exact h.head rfl rfl rfl hok (fun v0 v1 hh => by
          have := heap_setCell_same W _ 4 _ 74 (.int .i64 (wrap64 (s.acts + 1))) hh
          refine Eq.trans ?_ (show some (Obj.cells #[v0, v1, .int .i64 (max (s.armed - 1) (-1)), .bool s.off, .int .i64 (wrap64 (s.acts + 1))] 74 (0, 0)) = _ from rfl)
          rw [show max (s.armed - 1) (-1) = s.armed by omega]
          exact this) (fun b hb => heap_set2 _ _ _ _ _ hb) (by simp)
      have kp : ∀ z, Keeps G W (W.setCell ⟨d, 4, none⟩ z) := fun z => (Keeps.refl G W).set hG 4 z
      have hng : ¬ 0 < s.armed := by omega
      clear h0 h1 h2 hi hd h hs2 hok hwr
      generalize s.armed = ar at *
      generalize s.acts = ac at *
      go_enter Try.func40, Try.ntmps40
      go_wp2
      go_ret
      exact ⟨rfl, fin, kp _⟩
    · have hw : wrap64 (s.armed - 1) = s.armed - 1 := wrap64_of (by omega) (by omega)
      have fin : RefAt G ((W.setCell ⟨d, 2, none⟩ (.int .i64 (s.armed - 1))).setCell ⟨d, 4, none⟩ (.int .i64 (wrap64 (s.acts + 1)))) d (actDk s) := by
        rw [hs2]
        exact h.head rfl rfl rfl hok (fun v0 v1 hh => by
          have := heap_setCell_same _ _ 4 _ 74 (.int .i64 (wrap64 (s.acts + 1))) (heap_setCell_same W _ 2 _ 74 (.int .i64 (s.armed - 1)) hh)
          refine Eq.trans ?_ (show some (Obj.cells #[v0, v1, .int .i64 (max (s.armed - 1) (-1)), .bool s.off, .int .i64 (wrap64 (s.acts + 1))] 74 (0, 0)) = _ from rfl)
          rw [show max (s.armed - 1) (-1) = s.armed - 1 by omega]
          exact this) (fun b hb => (heap_set2 _ _ _ _ _ hb).trans (heap_set2 _ _ _ _ _ hb)) (by simp)
      have kp : ∀ z z', Keeps G W ((W.setCell ⟨d, 2, none⟩ z).setCell ⟨d, 4, none⟩ z') := fun z z' => ((Keeps.refl G W).set hG 2 z).set hG 4 z'
      clear h0 h1 h2 hi hd h hs2 hok hwr
      generalize s.armed = ar at *
      generalize s.acts = ac at *
      go_enter Try.func40, Try.ntmps40
      go_wp2
      go_ret
      exact ⟨rfl, fin, kp _ _⟩
end Go.Proofs.Ytpllifppjlakpaa.Dk
