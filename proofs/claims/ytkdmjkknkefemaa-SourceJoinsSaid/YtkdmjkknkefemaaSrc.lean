/-
  What the source functions tell, plain: how far blanks, or others, go on.
-/
import Derived.Test.YtkdmjkknkefemaaWWords
import Derived.Test.YtkdmjkknkefemaaWMore
import Derived.IntWalk
import Derived.RowKit
namespace Go.Proofs.Ytkdmjkknkefemaa
open Go.RowKit Go.Proofs.YtkdmjkknkefemaaW.PrintWords Go.Proofs.YtkdmjkknkefemaaW.PrintMore

theorem wrap64_of {z : Int} (h0 : -9223372036854775808 ≤ z) (h1 : z ≤ 9223372036854775807) : wrap64 z = z := IntWalk.wrap64_in z ⟨h0, h1⟩
/-- The first place from i on whose byte is of the other kind. -/
def skipN (s : ByteArray) (is : Bool) (i : Nat) : Nat :=
  if i < s.size ∧ decide (bt s (i : Int) ≤ 32) = is then skipN s is (i + 1) else i
termination_by s.size - i
theorem skipN_go {s : ByteArray} {is : Bool} {i : Nat} (h : i < s.size) (hb : decide (bt s (i : Int) ≤ 32) = is) : skipN s is i = skipN s is (i + 1) := by
  rw [skipN, if_pos ⟨h, hb⟩]
theorem skipN_stop {s : ByteArray} {is : Bool} {i : Nat} (hb : decide (bt s (i : Int) ≤ 32) ≠ is) : skipN s is i = i := by
  rw [skipN, if_neg (fun h => hb h.2)]
theorem skipN_end {s : ByteArray} {is : Bool} {i : Nat} (h : s.size ≤ i) : skipN s is i = i := by
  rw [skipN, if_neg (fun h' => by omega)]
theorem skipN_ind {s : ByteArray} {is : Bool} {Q : Nat → Prop} (he : ∀ i, s.size ≤ i → Q i) (hs : ∀ i, i < s.size → decide (bt s (i : Int) ≤ 32) ≠ is → Q i)
    (hg : ∀ i, i < s.size → decide (bt s (i : Int) ≤ 32) = is → Q (i + 1) → Q i) (i : Nat) : Q i := by
  have key : ∀ n i, s.size - i = n → Q i := by
    intro n
    induction n with
    | zero => exact fun i h => he i (by omega)
    | succ n ih =>
      intro i h
      by_cases hb : decide (bt s (i : Int) ≤ 32) = is
      · exact hg i (by omega) hb (ih (i + 1) (by omega))
      · exact hs i (by omega) hb
  exact key _ i rfl
theorem skipN_ge (s : ByteArray) (is : Bool) (i : Nat) : i ≤ skipN s is i := by
  refine skipN_ind (s := s) (is := is) (Q := fun i => i ≤ skipN s is i) (fun i h => ?_) (fun i h hb => ?_) (fun i h hb ih => ?_) i
  · rw [skipN_end h]; omega
  · rw [skipN_stop hb]; omega
  · rw [skipN_go h hb]; omega
theorem skipN_le {s : ByteArray} {is : Bool} {i : Nat} (h : i ≤ s.size) : skipN s is i ≤ s.size := by
  refine skipN_ind (s := s) (is := is) (Q := fun i => i ≤ s.size → skipN s is i ≤ s.size) (fun i h h' => ?_) (fun i h hb h' => ?_) (fun i h hb ih h' => ?_) i h
  · rw [skipN_end h]; omega
  · rw [skipN_stop hb]; omega
  · rw [skipN_go h hb]; exact ih h
/-- All before the place that it tells are of the kind; the one there is not. -/
theorem skipN_in {s : ByteArray} {is : Bool} (i j : Nat) (h1 : i ≤ j) (h2 : j < skipN s is i) : decide (bt s (j : Int) ≤ 32) = is := by
  revert h1 h2
  refine skipN_ind (s := s) (is := is) (Q := fun i => i ≤ j → j < skipN s is i → decide (bt s (j : Int) ≤ 32) = is) (fun i h h1 h2 => ?_) (fun i h hb h1 h2 => ?_) (fun i h hb ih h1 h2 => ?_) i
  · rw [skipN_end h] at h2; omega
  · rw [skipN_stop hb] at h2; omega
  · rcases Nat.lt_or_ge i j with h3 | h3
    · rw [skipN_go h hb] at h2; exact ih h3 h2
    · obtain rfl : i = j := by omega
      exact hb
theorem skipN_at {s : ByteArray} {is : Bool} {i : Nat} (h : skipN s is i < s.size) : decide (bt s (skipN s is i : Int) ≤ 32) ≠ is := by
  revert h
  refine skipN_ind (s := s) (is := is) (Q := fun i => skipN s is i < s.size → decide (bt s (skipN s is i : Int) ≤ 32) ≠ is) (fun i h h' => ?_) (fun i h hb h' => ?_) (fun i h hb ih h' => ?_) i
  · rw [skipN_end h] at h'; omega
  · rw [skipN_stop hb]; exact hb
  · rw [skipN_go h hb] at h' ⊢; exact ih h'
theorem bt_extract {s : ByteArray} {p q i : Nat} (hq : q ≤ s.size) (hi : p + i < q) : bt (s.extract p q) (i : Int) = bt s ((p + i : Nat) : Int) := by
  have h1 : i < (s.extract p q).size := by rw [ByteArray.size_extract]; omega
  have h2 : p + i < s.size := by omega
  unfold bt
  rw [dif_pos (by simpa using h1), dif_pos (by rw [Int.toNat_natCast]; exact h2)]
  simp only [Int.toNat_natCast]
  rw [ByteArray.getElem_extract]
theorem skipN_extract {s : ByteArray} {is : Bool} {p : Nat} (hp : p ≤ s.size) (i : Nat) : i ≤ s.size - p → p + skipN (s.extract p s.size) is i = skipN s is (p + i) := by
  have hsz : (s.extract p s.size).size = s.size - p := by rw [ByteArray.size_extract]; omega
  refine skipN_ind (s := s.extract p s.size) (is := is) (Q := fun i => i ≤ s.size - p → p + skipN (s.extract p s.size) is i = skipN s is (p + i)) (fun i h h' => ?_) (fun i h hb h' => ?_) (fun i h hb ih h' => ?_) i
  · rw [skipN_end h, skipN_end (by omega)]
  · rw [skipN_stop hb]
    rw [bt_extract (Nat.le_refl _) (by omega)] at hb
    rw [skipN_stop hb]
  · rw [skipN_go h hb, ih (by omega)]
    rw [bt_extract (Nat.le_refl _) (by omega)] at hb
    rw [skipN_go (by omega) hb]
    rfl
theorem mn_nat (a b : Nat) : mn (a : Int) (b : Int) = ((min a b : Nat) : Int) := by unfold mn; split <;> omega
/-- A place, as it counts. -/
def placeOf (s : ByteArray) (a : Int) : Nat := min a.toNat s.size
theorem place_eq (s : ByteArray) (a : Int) : mn (mx a 0) (s.size : Int) = (placeOf s a : Int) := by
  unfold mn mx placeOf
  split <;> split <;> omega
theorem placeOf_le (s : ByteArray) (a : Int) : placeOf s a ≤ s.size := by unfold placeOf; omega
/-- The word from a place on. -/
def wordFrom (s : ByteArray) (p : Nat) : Nat := skipN s true p
def wordTo (s : ByteArray) (p : Nat) : Nat := skipN s false (wordFrom s p)
def wordNext (s : ByteArray) (p : Nat) : Nat := min (wordTo s p + 1) s.size
theorem wordFrom_le {s : ByteArray} {p : Nat} (h : p ≤ s.size) : wordFrom s p ≤ s.size := skipN_le h
theorem wordTo_le {s : ByteArray} {p : Nat} (h : p ≤ s.size) : wordTo s p ≤ s.size := skipN_le (wordFrom_le h)
theorem wordFrom_ge (s : ByteArray) (p : Nat) : p ≤ wordFrom s p := skipN_ge _ _ _
theorem wordTo_ge (s : ByteArray) (p : Nat) : wordFrom s p ≤ wordTo s p := skipN_ge _ _ _
/-- The first place from i on with that byte, or the end. -/
def findN (s : ByteArray) (z : Int) (i : Nat) : Nat :=
  if i < s.size ∧ bt s (i : Int) ≠ z then findN s z (i + 1) else i
termination_by s.size - i
theorem findN_go {s : ByteArray} {z : Int} {i : Nat} (h : i < s.size) (hb : bt s (i : Int) ≠ z) : findN s z i = findN s z (i + 1) := by
  rw [findN, if_pos ⟨h, hb⟩]
theorem findN_stop {s : ByteArray} {z : Int} {i : Nat} (hb : bt s (i : Int) = z) : findN s z i = i := by
  rw [findN, if_neg (fun h => h.2 hb)]
theorem findN_end {s : ByteArray} {z : Int} {i : Nat} (h : s.size ≤ i) : findN s z i = i := by
  rw [findN, if_neg (fun h' => by omega)]
/-- The text from f up to the byte at j, or all of it. -/
def parseRes (s : ByteArray) (f j : Nat) : ByteArray × Int × Bool :=
  if j < s.size then (s.extract f j, ((j + 1 : Nat) : Int), true) else (s.extract f s.size, (s.size : Int), false)
theorem size_nil {x : ByteArray} (h : x.size = 0) : x.toList = [] := by
  rw [Go.ByteArray.toList_eq]
  exact List.eq_nil_of_length_eq_zero (by simpa using h)
theorem nil_size {x : ByteArray} (h : x.toList = []) : x.size = 0 := by
  rw [Go.ByteArray.toList_eq] at h
  have := congrArg List.length h
  simpa using this
/-- Blanks at the end go. -/
def cutN (s : ByteArray) : Nat → Nat
  | 0 => 0
  | n + 1 => if bt s (n : Int) ≤ 32 then cutN s n else n + 1
theorem cutN_le (s : ByteArray) : ∀ n, cutN s n ≤ n
  | 0 => Nat.le_refl _
  | n + 1 => by
    rw [cutN]
    split
    · have := cutN_le s n; omega
    · omega
theorem extract_extract0 (x : ByteArray) (n m : Nat) (h : m ≤ n) : (x.extract 0 n).extract 0 m = x.extract 0 m := by
  rw [ByteArray.extract_extract]
  congr 1; omega
theorem extract_all (x : ByteArray) : x.extract 0 x.size = x := by
  rw [ByteArray.extract_zero_size]
theorem extract_from (x : ByteArray) (p q : Nat) (hp : p ≤ x.size) (hq : q ≤ x.size - p) : (x.extract p x.size).extract q (x.size - p) = x.extract (p + q) x.size := by
  rw [ByteArray.extract_extract]
  congr 1; omega
end Go.Proofs.Ytkdmjkknkefemaa
