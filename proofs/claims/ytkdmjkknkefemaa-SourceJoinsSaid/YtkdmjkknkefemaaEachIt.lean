/-
  source.Words: the iterator's contract.
-/
import Derived.Test.YtkdmjkknkefemaaEachPlain
import Derived.RangeFuncNested
import Derived.RangeFuncBound
import Derived.RangeFuncCalls
import Derived.RangeFuncLeaves
import Derived.RangeFuncBox
import Derived.Shelf.Abstract
import Derived.Shelf.RegionOpen
import Derived.OwnWalkIn
import Derived.TacticsInMore
import Derived.LoopNIn
import Derived.LoopIn
import Derived.Lib.Hide
namespace Go.Proofs.Ytkdmjkknkefemaa.Each
open Go.RowKit Go.Shelf Go.Proofs.Ytkdmjkknkefemaa
attribute [local go_sem] Oper.semAt_some
set_option linter.unusedVariables false
set_option linter.unusedSimpArgs false

theorem blk_lt {w : World} {g : Nat} {o : Obj} (h : w.heap[g]? = some o) : g < w.heap.size := (Array.getElem?_eq_some_iff.1 h).1
theorem cell_one {W : World} {g : Nat} {v : Value} {t : TypeId} (h : W.heap[g]? = some (.cells #[v] t (0, 0))) : W.cell? ⟨g, 0, none⟩ = some v := by
  rw [cell_of_row W g 0 _ t (0, 0) h]; rfl
theorem nil_yes {s : ByteArray} (h : s.size = 0) : s.toList.isEmpty = true := by
  rw [size_nil h]; rfl
theorem nil_no {s : ByteArray} (h : 0 < s.size) : s.toList.isEmpty = false := by
  rcases hh : s.toList with _ | ⟨x, l⟩
  · have := nil_size hh; omega
  · rfl
theorem words_any (s : ByteArray) (w : World) : Calls Try.prog 15 #[.string s] w fun e w' => e = .returned (.func (.func 19) #[] #[.pointer (some ⟨w.heap.size, 0, none⟩)]) ∧ w.alloc (.cells #[.string s] 9) = w' := by
  go_enter Try.func15, Try.ntmps15
  go_wp2
  go_ret
  exact ⟨rfl, rfl⟩

theorem below_grown {w w' : World} (h : Below w.heap.size w w') : w.grownBy w' none := ⟨h.os, h.tape, h.output, h.size, fun i hi _ => h.block i hi⟩
set_option maxRecDepth 100000 in
set_option maxHeartbeats 2000000 in
theorem words1 (n : Nat) (hn : 1 ≤ n) (l Bs n₀ : Nat) (s : ByteArray) (hs : s.size ≤ 20000) (hn0 : Bs < n₀) (J Jx : List (Nat × ByteArray) → World → Prop) (B : Nat) (hA : AbidesFrom B J)
    (hY : ∀ pre x W, J pre W → pre.length < 20001 → YieldAt Fence.wide (n - 1) Try.prog l #[.int .i64 (x.1 : Int), .string x.2] W fun e W' =>
      (e = .returned (.bool true) ∧ J (pre ++ [x]) W' ∧ Below n₀ W W') ∨ (e = .returned (.bool false) ∧ Jx (pre ++ [x]) W'))
    (W : World) (hBs : W.heap[Bs]? = some (.cells #[.string s] 9 (0, 0))) (h0 : J [] W) :
    CallsIn Fence.wide n Try.prog 19 #[.func (.yield l) #[] #[], .pointer (some ⟨Bs, 0, none⟩)] W fun e W' => (∃ v, e = .returned v) ∧
      ((∃ ys, (∃ k, ys = wordsTo s k ∧ (∀ i, i < k → there s i) ∧ ¬ there s k) ∧ J ys W') ∨ (∃ pre, (∃ k, pre = wordsTo s k ∧ ∀ i, i < k → there s i) ∧ Jx pre W')) := by
  refine callsIn_of_wp Try.func19 rfl trivial ?_ rfl
  simp only [Try.ntmps19, List.size_toArray, List.length_cons, List.length_nil, Nat.reduceAdd, Nat.reduceSub, Array.replicate_succ, Array.replicate_zero, List.push_toArray, List.append_toArray, List.nil_append, List.cons_append]
  gi_wp2
  gi_loopw [3] (fun v wr => ∃ k : Nat, v = .int .i64 (placeN s k) ∧ (∀ i, i < k → there s i) ∧ J (wordsTo s k) wr ∧ wr.heap[Bs]? = some (.cells #[.string s] 9 (0, 0)))
    (fun v _ => s.size - (intOf v).toNat)
  case atStart => exact ⟨0, rfl, fun i hi => absurd hi (Nat.not_lt_zero i), h0, hBs⟩
  case round =>
    obtain ⟨k, rfl, hth, hJs, hB⟩ := hrel
    have hple := placeN_le s k
    have hcall := word_any s (placeN s k) (by omega)
    rw [placeOf_nat hple] at hcall
    have hc := cell_one hB
    have hcnt := count_le hth
    have hws := wordN_size s k
    have hnext : wordNext s (placeN s k) = placeN s (k + 1) := rfl
    rw [hnext] at hcall
    have hwn : wordN s k = (wordFrom s (placeN s k), s.extract (wordFrom s (placeN s k)) (wordTo s (placeN s k))) := rfl
    by_cases ht : there s k
    · have hth' : ∀ i, i < k + 1 → there s i := fun i hi => by
        rcases Nat.lt_or_ge i k with h | h
        · exact hth i h
        · obtain rfl : i = k := by omega
          exact ht
      have hlt := placeN_lt ht
      have hle2 := placeN_le s (k + 1)
      have hpos : 0 < (wordN s k).2.size := by rw [hws]; unfold there at ht; omega
      have hnil := nil_no hpos
      have hms : s.size - placeN s (k + 1) < s.size - placeN s k := by omega
      have hY' := fun w1 h => hY (wordsTo s k) (wordN s k) w1 h (by rw [wordsTo_len]; omega)
      rw [hwn] at hnil hY'
      dsimp only at hnil hY'
      have Hth := Lib.hid hth'
      have Hwn := Lib.hid hwn
      have Hms := Lib.hid hms
      generalize s.extract (wordFrom s (placeN s k)) (wordTo s (placeN s k)) = X at *
      generalize wordFrom s (placeN s k) = f at *
      generalize hnx : placeN s (k + 1) = nx at *
      have Hnx := Lib.hid hnx
      have HYk := Lib.hid hY'
      clear hnx hY hY' hms hwn hth hth' hws hnext hcnt hpos ht hlt hle2 hple
      gi_wp2_with fail
      refine ⟨trivial, (callsIn_wide.2 (hcall _)).mono ?_⟩
      rintro e w1 ⟨rfl, hb1⟩
      have hB1 := (hb1.block Bs (blk_lt hB)).trans hB
      have hJ1 := hA _ _ _ none hJs (below_grown hb1) (fun r e => by cases e)
      obtain ⟨fn, tmps, assign, body, hy, hR⟩ := HYk.out w1 hJ1
      try dsimp only at hy
      gi_wp2_with fail
      refine hR.mono ?_
      rintro e W3 (⟨rfl, hJ3, hk3⟩ | ⟨rfl, hJx3⟩)
      · gi_wp2
        go_roundw
        case rel => exact ⟨k + 1, by rw [Hnx.out], Hth.out, by rw [wordsTo_succ, Hwn.out]; exact hJ3, (hk3.block Bs hn0).trans hB1⟩
        case measure => exact Hms.out
      · gi_wp2
        refine bodyPost_ret (results_none rfl _ _ _) rfl ?_
        exact ⟨⟨_, rfl⟩, .inr ⟨_, ⟨k + 1, by rw [wordsTo_succ, Hwn.out], Hth.out⟩, hJx3⟩⟩
    · have hzero : (wordN s k).2.size = 0 := by rw [hws]; unfold there at ht; omega
      have hnil := nil_yes hzero
      rw [hwn] at hnil
      dsimp only at hnil
      have Hth := Lib.hid hth
      have Ht := Lib.hid ht
      generalize s.extract (wordFrom s (placeN s k)) (wordTo s (placeN s k)) = X at *
      generalize wordFrom s (placeN s k) = f at *
      generalize placeN s (k + 1) = nx at *
      clear hwn hth hws hnext hcnt hzero ht hple hY
      gi_wp2_with (refine ⟨trivial, ?_⟩; gi_at_call 9; refine (callsIn_wide.2 (hcall _)).mono ?_; rintro e w1 ⟨rfl, hb1⟩)
      have hJ1 := hA _ _ _ none hJs (below_grown hb1) (fun r e => by cases e)
      refine ⟨fun _ h => (by cases h), ?_⟩
      gi_wp2
      refine bodyPost_ret (results_none rfl _ _ _) rfl ?_
      exact ⟨⟨_, rfl⟩, .inl ⟨_, ⟨k, rfl, Hth.out, Ht.out⟩, hJ1⟩⟩
theorem words_stops (Bs n₀ : Nat) (s : ByteArray) (hs : s.size ≤ 20000) (hn0 : Bs < n₀) (w : World) (hc : w.heap[Bs]? = some (.cells #[.string s] 9 (0, 0))) :
    SeqStopsK Fence.wide 7 Try.prog 19 #[.pointer (some ⟨Bs, 0, none⟩)] (fun x : Nat × ByteArray => #[Value.int .i64 (x.1 : Int), Value.string x.2]) (Below n₀)
      (fun ys => ∃ k, ys = wordsTo s k ∧ (∀ i, i < k → there s i) ∧ ¬ there s k) (fun pre => ∃ k, pre = wordsTo s k ∧ ∀ i, i < k → there s i) 20001 w := fun l J Jx W hW hA _ hY h0 =>
  words1 7 (by omega) l Bs n₀ s hs hn0 J Jx _ hA hY W ((hW.block Bs (blk_lt hc)).trans hc) h0
end Go.Proofs.Ytkdmjkknkefemaa.Each
