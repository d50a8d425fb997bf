/-
  SourceJoins, plain: words that are put together with blanks are told again.
-/
import Derived.Test.YtkdmjkknkefemaaEachPlain
namespace Go.Proofs.Ytkdmjkknkefemaa.Each
open Go.RowKit Go.Proofs.Ytkdmjkknkefemaa Go.Proofs.YtkdmjkknkefemaaW.PrintWords
set_option linter.unusedVariables false

theorem bt_append_left {a b : ByteArray} {i : Nat} (h : i < a.size) : bt (a ++ b) (i : Int) = bt a (i : Int) := by
  unfold bt
  rw [dif_pos (by rw [Int.toNat_natCast, ByteArray.size_append]; omega), dif_pos (by rw [Int.toNat_natCast]; exact h)]
  simp only [Int.toNat_natCast]
  rw [ByteArray.getElem_append_left h]
theorem bt_append_right {a b : ByteArray} {i : Nat} (h : i < b.size) : bt (a ++ b) ((a.size + i : Nat) : Int) = bt b (i : Int) := by
  unfold bt
  rw [dif_pos (by rw [Int.toNat_natCast, ByteArray.size_append]; omega), dif_pos (by rw [Int.toNat_natCast]; exact h)]
  simp only [Int.toNat_natCast]
  rw [ByteArray.getElem_append_right (by omega)]
  simp
/-- Words and the blanks behind them, put together: the first k. -/
def joinTo (ws : List ByteArray) (bl : Nat → UInt8) : Nat → ByteArray
  | 0 => ⟨#[]⟩
  | k + 1 => joinTo ws bl k ++ (ws[k]?.getD ⟨#[]⟩ ++ ⟨#[bl k]⟩)
theorem skip_run {s : ByteArray} {off n : Nat} (h : off + n < s.size) (hw : ∀ j : Nat, j < n → 32 < bt s ((off + j : Nat) : Int)) (hb : bt s ((off + n : Nat) : Int) ≤ 32) :
    ∀ (m j : Nat), n - j = m → j ≤ n → skipN s false (off + j) = off + n
  | 0, j, hm, hj => by
    obtain rfl : j = n := by omega
    rw [skipN_stop]
    simp only [decide_eq_true hb]
    decide
  | m + 1, j, hm, hj => by
    rw [skipN_go (by omega) (decide_eq_false (by have := hw j (by omega); omega))]
    exact skip_run h hw hb m (j + 1) (by omega) (by omega)
theorem word_at {s : ByteArray} {off n : Nat} (h : off + n < s.size) (hn : 0 < n) (hw : ∀ j : Nat, j < n → 32 < bt s ((off + j : Nat) : Int)) (hb : bt s ((off + n : Nat) : Int) ≤ 32) :
    wordFrom s off = off ∧ wordTo s off = off + n ∧ wordNext s off = off + n + 1 := by
  have h1 : wordFrom s off = off := skipN_stop (by have := hw 0 hn; rw [Nat.add_zero] at this; rw [decide_eq_false (by omega)]; decide)
  have h2 : wordTo s off = off + n := by
    unfold wordTo
    rw [h1]
    have := skip_run h hw hb n 0 (by omega) (by omega)
    rwa [Nat.add_zero] at this
  refine ⟨h1, h2, ?_⟩
  unfold wordNext
  rw [h2]
  omega
theorem joinTo_size (ws : List ByteArray) (bl : Nat → UInt8) (k : Nat) : (joinTo ws bl (k + 1)).size = (joinTo ws bl k).size + (ws[k]?.getD ⟨#[]⟩).size + 1 := by
  rw [joinTo, ByteArray.size_append, ByteArray.size_append]
  show _ + (_ + 1) = _
  omega
theorem joinTo_more (ws : List ByteArray) (bl : Nat → UInt8) (k : Nat) : ∀ m, ∃ R, joinTo ws bl (k + m) = joinTo ws bl k ++ R
  | 0 => ⟨⟨#[]⟩, by apply ByteArray.ext; rw [ByteArray.data_append]; simp⟩
  | m + 1 => by
    obtain ⟨R, hR⟩ := joinTo_more ws bl k m
    exact ⟨R ++ (ws[k + m]?.getD ⟨#[]⟩ ++ ⟨#[bl (k + m)]⟩), by rw [← Nat.add_assoc, joinTo, hR, ByteArray.append_assoc]⟩
/-- The text: what lies at the k-th word's place. -/
theorem join_at (ws : List ByteArray) (bl : Nat → UInt8) (n k : Nat) (hk : k < n) :
    (joinTo ws bl k).size + (ws[k]?.getD ⟨#[]⟩).size < (joinTo ws bl n).size ∧
    (∀ j : Nat, j < (ws[k]?.getD ⟨#[]⟩).size → bt (joinTo ws bl n) (((joinTo ws bl k).size + j : Nat) : Int) = bt (ws[k]?.getD ⟨#[]⟩) (j : Int)) ∧
    bt (joinTo ws bl n) (((joinTo ws bl k).size + (ws[k]?.getD ⟨#[]⟩).size : Nat) : Int) = (bl k).toNat := by
  obtain ⟨R, hR⟩ := joinTo_more ws bl (k + 1) (n - (k + 1))
  rw [show k + 1 + (n - (k + 1)) = n by omega] at hR
  have hsz := joinTo_size ws bl k
  rw [hR]
  have hs : (joinTo ws bl (k + 1) ++ R).size = (joinTo ws bl (k + 1)).size + R.size := ByteArray.size_append
  refine ⟨by omega, fun j hj => ?_, ?_⟩
  · rw [bt_append_left (by omega), joinTo, bt_append_right (by rw [ByteArray.size_append]; omega), bt_append_left hj]
  · rw [bt_append_left (by omega), joinTo, bt_append_right (by rw [ByteArray.size_append]; show _ < _ + 1; omega)]
    have := bt_append_right (a := ws[k]?.getD ⟨#[]⟩) (b := ⟨#[bl k]⟩) (i := 0) (by show 0 < 1; omega)
    rw [Nat.add_zero] at this
    rw [this]
    rfl
theorem extract_mid (A X R : ByteArray) : (A ++ X ++ R).extract A.size (A.size + X.size) = X := by
  apply ByteArray.ext
  apply Array.toList_inj.1
  have h1 : A.data.size = A.size := rfl
  have h2 : X.data.size = X.size := rfl
  rw [ByteArray.data_extract, Array.toList_extract, ByteArray.data_append, ByteArray.data_append, Array.toList_append, Array.toList_append, List.extract_eq_take_drop, List.append_assoc]
  have h3 : A.data.toList.length = A.size := by simp
  have h4 : X.data.toList.length = X.size := by simp
  rw [List.drop_append_of_le_length (by omega), List.drop_of_length_le (by omega), List.nil_append, show A.size + X.size - A.size = X.data.toList.length by omega, List.take_left]
theorem join_word (ws : List ByteArray) (bl : Nat → UInt8) (n k : Nat) (hk : k < n) :
    (joinTo ws bl n).extract (joinTo ws bl k).size ((joinTo ws bl k).size + (ws[k]?.getD ⟨#[]⟩).size) = ws[k]?.getD ⟨#[]⟩ := by
  obtain ⟨R, hR⟩ := joinTo_more ws bl (k + 1) (n - (k + 1))
  rw [show k + 1 + (n - (k + 1)) = n by omega] at hR
  rw [hR, joinTo, ← ByteArray.append_assoc, ByteArray.append_assoc (a := joinTo ws bl k ++ ws[k]?.getD ⟨#[]⟩)]
  exact extract_mid _ _ _
/-- The words of the text are the words. -/
theorem join_words (ws : List ByteArray) (bl : Nat → UInt8) (n : Nat) (hw : ∀ k, k < n → 0 < (ws[k]?.getD ⟨#[]⟩).size ∧ ∀ j : Nat, j < (ws[k]?.getD ⟨#[]⟩).size → 32 < bt (ws[k]?.getD ⟨#[]⟩) (j : Int)) (hb : ∀ k, k < n → (bl k).toNat ≤ 32) :
    ∀ k, k ≤ n → placeN (joinTo ws bl n) k = (joinTo ws bl k).size ∧ (∀ i, i < k → there (joinTo ws bl n) i ∧ (wordN (joinTo ws bl n) i).2 = ws[i]?.getD ⟨#[]⟩)
  | 0, _ => ⟨rfl, fun i hi => absurd hi (Nat.not_lt_zero i)⟩
  | k + 1, hk => by
    obtain ⟨h1, h2⟩ := join_words ws bl n hw hb k (by omega)
    obtain ⟨a1, a2, a3⟩ := join_at ws bl n k (by omega)
    obtain ⟨w1, w2⟩ := hw k (by omega)
    have hat := word_at a1 w1 (fun j hj => by rw [a2 j hj]; exact w2 j hj) (by rw [a3]; have := hb k (by omega); omega)
    have hsz := joinTo_size ws bl k
    refine ⟨?_, fun i hi => ?_⟩
    · show wordNext _ (placeN _ k) = _
      rw [h1, hat.2.2, hsz]
    · rcases Nat.lt_or_ge i k with h | h
      · exact h2 i h
      · obtain rfl : i = k := by omega
        unfold there wordN
        rw [h1, hat.1, hat.2.1]
        exact ⟨by omega, join_word ws bl n i (by omega)⟩
theorem join_end (s : ByteArray) (k : Nat) (h : placeN s k = s.size) : ¬ there s k := by
  have h1 := wordFrom_ge s (placeN s k)
  have h2 := wordTo_le (placeN_le s k)
  unfold there
  omega
end Go.Proofs.Ytkdmjkknkefemaa.Each
