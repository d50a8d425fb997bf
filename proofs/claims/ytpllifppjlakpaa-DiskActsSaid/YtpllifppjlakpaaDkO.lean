/-
  disk: what lasts after a restart, after a flush: the plain laws.
-/
import Derived.Test.YtpllifppjlakpaaDkN
namespace Go.Proofs.Ytpllifppjlakpaa.Dk
open Go.RowKit Go.Shelf Go.Proofs.Ytpllifppjlakpaa
set_option linter.unusedVariables false
set_option linter.unusedSimpArgs false
theorem secOf_splice {L x : List Int} {n k i : Nat} (hL : L.length = 64 * n) (hx : x.length = 64) (hk : k < n) (hi : i < n) : secOf (splice L (64 * k) x) i = if i = k then x else secOf L i := by
  have hl : ∀ i, i < n → (secOf L i).length = 64 := fun i hi => secOf_length hL hi
  have h1 : splice L (64 * k) x = secs n (fun i => if i = k then x else secOf L i) := by
    rw [← secs_splice hx n hl k hk, secs_secOf hL]
  rw [h1, secOf_secs n (fun i hi => by split; exact hx; exact hl i hi) i hi]
/-- The writes that wait, laid down one after another. -/
def applyQ (L : List Int) (Q : List (Nat × List Int)) : List Int := Q.foldl (fun L q => splice L (64 * q.1) q.2) L
theorem applyQ_length {n : Nat} : ∀ (Q : List (Nat × List Int)) {L : List Int}, L.length = 64 * n → (∀ q ∈ Q, q.1 < n ∧ isSec q.2) → (applyQ L Q).length = 64 * n
  | [], _, h, _ => h
  | q :: Q, L, h, hq => by
    have := hq q List.mem_cons_self
    exact applyQ_length Q (splice_len h this.1 this.2.1) (fun q hq' => hq q (List.mem_cons_of_mem _ hq'))
/-- What is read of a sector is what the writes that wait would leave. -/
def Holds (s : Dk) : Prop := ∀ i, i < s.n → (s.C (i : Int)).getD (secOf s.L i) = secOf (applyQ s.L s.Q) i
theorem new_holds {s : Dk} (hC : s.C = fun _ => none) (hQ : s.Q = []) : Holds s := fun i _ => by rw [hC, hQ]; rfl
theorem act_holds {s : Dk} (h : Holds s) : Holds (actDk s) := by
  intro i hi
  rw [actDk_n] at hi
  rw [actDk_C, actDk_L, actDk_Q]
  exact h i hi
theorem write_holds {s : Dk} (hok : DkOk s) (h : Holds s) {k : Nat} (hk : k < s.n) {x : List Int} (hx : isSec x) : Holds (writeDk s k x) := by
  intro i hi
  have hi : i < (actDk s).n := hi
  rw [actDk_n] at hi
  show ((if (i : Int) = (k : Int) then some x else s.C (i : Int)).getD (secOf (actDk s).L i)) = secOf (applyQ (actDk s).L (s.Q ++ [(k, x)])) i
  rw [actDk_L]
  have e : applyQ s.L (s.Q ++ [(k, x)]) = splice (applyQ s.L s.Q) (64 * k) x := by simp [applyQ, List.foldl_append]
  rw [e, secOf_splice (applyQ_length s.Q hok.len hok.queue) hx.1 hk hi]
  by_cases hik : i = k
  · subst hik
    rw [if_pos rfl, if_pos rfl]
    rfl
  · rw [if_neg (by omega), if_neg hik]
    exact h i hi
theorem flush_is {s : Dk} (hok : DkOk s) (h : Holds s) : flushL s = applyQ s.L s.Q := by
  unfold flushL
  rw [secs_congr s.n h, secs_secOf (applyQ_length s.Q hok.len hok.queue)]
theorem stays_all (i : Nat) : stays 18446744073709551615 i = true := by
  have h : (List.range 64).all (fun k => bits BinOp.and .u64 (18446744073709551615 / 2 ^ k) 1 == 1) = true := by kernel_rfl
  unfold stays
  have := List.all_eq_true.1 h ((if (63 : Int) < (i : Int) then (63 : Int) else (i : Int)).toNat) (List.mem_range.2 (by split <;> omega))
  exact this
theorem stays_none (i : Nat) : stays 0 i = false := by
  have h : (List.range 64).all (fun k => !(bits BinOp.and .u64 (0 / 2 ^ k) 1 == 1)) = true := by kernel_rfl
  unfold stays
  have := List.all_eq_true.1 h ((if (63 : Int) < (i : Int) then (63 : Int) else (i : Int)).toNat) (List.mem_range.2 (by split <;> omega))
  simpa using this
theorem rest_all {f : FateV} (hs : f.stay = 18446744073709551615) (ht : f.torn < 0) (Q : List (Nat × List Int)) (L : List Int) : ∀ i, i ≤ Q.length → restTo f Q L i = applyQ L (Q.take i)
  | 0, _ => rfl
  | i + 1, h => by
    have hi : i < Q.length := by omega
    rw [restTo, rest_all hs ht Q L i (by omega), List.getElem?_eq_getElem hi, List.take_succ_eq_append_getElem hi]
    unfold restStep
    rw [if_neg (by omega), if_pos (by rw [hs]; exact stays_all i)]
    unfold applyQ
    rw [List.foldl_append]
    rfl
theorem rest_none {f : FateV} (hs : f.stay = 0) (ht : f.torn < 0) (Q : List (Nat × List Int)) (L : List Int) : ∀ i, restTo f Q L i = L
  | 0 => rfl
  | i + 1 => by
    rw [restTo, rest_none hs ht Q L i]
    unfold restStep
    rw [if_neg (by omega), if_neg (by rw [hs, stays_none]; decide)]
/-- A disk in use that was never armed. -/
structure Free (s0 s : Dk) : Prop where
  off : s.off = false
  armed : s.armed = -1
  holds : Holds s
  L : s.L = s0.L
  n : s.n = s0.n
theorem act_free {s : Dk} (h : s.armed = -1) : (actDk s).armed = -1 ∧ (actDk s).off = s.off := by
  unfold actDk
  rw [if_neg (by omega)]
  exact ⟨by show max (s.armed - 1) (-1) = -1; omega, rfl⟩
theorem write_free {s0 s : Dk} (hok : DkOk s) (h : Free s0 s) (n : Int) (bs : List Int) (hb : isBytes bs) : Free s0 (writeTot s n bs).2 ∧ (writeTot s n bs).2.Q.length ≤ s.Q.length + 1 := by
  unfold writeTot
  rw [if_neg (by rw [h.off]; decide)]
  split
  · exact ⟨h, Nat.le_succ _⟩
  · rename_i hr
    simp only [not_or, Int.not_lt, Int.not_le, ne_eq, Decidable.not_not] at hr
    obtain ⟨h1, h2, h3⟩ := hr
    obtain ⟨k, rfl⟩ := Int.eq_ofNat_of_zero_le h1
    rw [if_neg (by have := h.armed; omega)]
    obtain ⟨e1, e2⟩ := act_free h.armed
    refine ⟨⟨e2.trans h.off, e1, write_holds hok h.holds (by rw [Int.toNat_natCast]; omega) ⟨h3, hb⟩, (actDk_L s).trans h.L, (actDk_n s).trans h.n⟩, ?_⟩
    show (s.Q ++ [_]).length ≤ _
    rw [List.length_append]
    exact Nat.le_refl _
theorem of_free (bs : List Int) : Free (ofDk bs) (ofDk bs) := ⟨rfl, rfl, new_holds rfl rfl, rfl, rfl⟩
theorem fates_flush {s0 s : Dk} (hok : DkOk s) (h : Free s0 s) : (restDk s ⟨18446744073709551615, -1, 0, false⟩).L = (flushTot s).2.L := by
  have e : flushTot s = (0, flushDk s) := by unfold flushTot; rw [if_neg (by rw [h.off]; decide), if_neg (by have := h.armed; omega)]
  rw [e]
  show restTo _ s.Q s.L s.Q.length = flushL s
  rw [rest_all rfl (by decide) s.Q s.L _ (Nat.le_refl _), List.take_length, flush_is hok h.holds]
theorem fates_before {s0 s : Dk} (h : Free s0 s) : (restDk s ⟨0, -1, 0, false⟩).L = s0.L := (rest_none rfl (by decide) s.Q s.L _).trans h.L
end Go.Proofs.Ytpllifppjlakpaa.Dk
