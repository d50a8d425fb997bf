/-
  SourceEach, SourceJoins: what the words are, plain; contracts out of the printed walks.
-/
import Derived.Test.YtkdmjkknkefemaaSrc
import Derived.Test.YtkdmjkknkefemaaPSourceEachx1
import Derived.Test.YtkdmjkknkefemaaPSourceEachx2
import Derived.WalkSmall
namespace Go.Proofs.Ytkdmjkknkefemaa.Each
open Go.RowKit Go.Proofs.Ytkdmjkknkefemaa Go.Proofs.Ytkdmjkknkefemaa.PSourceEach Go.Proofs.YtkdmjkknkefemaaW.PrintWords Go.Proofs.YtkdmjkknkefemaaW.PrintLast Go.Proofs.YtkdmjkknkefemaaW.PrintMore
set_option linter.unusedVariables false

theorem lead_l0 (s : ByteArray) (is : Bool) (hs : s.size ≤ 140737488351232) : ∀ (n i k : Nat), s.size - i = n → i ≤ s.size → n < k → source_lead.l0 k s is (s.size : Int) (i : Int) = some (skipN s is i : Int)
  | n, i, 0, _, _, h => by omega
  | n, i, k + 1, hn, hi, hk => by
    rw [source_lead.l0]
    by_cases hlt : i < s.size
    · rw [if_pos (by omega), if_pos (by omega), if_pos (by omega)]
      simp only [source_blank.f, Option.bind_some]
      by_cases hb : decide (bt s (i : Int) ≤ 32) = is
      · rw [if_neg (by simp [hb]), wrap64_of (by omega) (by omega), skipN_go hlt hb]
        exact lead_l0 s is hs (n - 1) (i + 1) k (by omega) (by omega) (by omega)
      · rw [if_pos (by simpa using hb), skipN_stop hb]
    · rw [if_neg (by omega), skipN_end (by omega)]
      congr 2; omega
theorem lead_f (s : ByteArray) (is : Bool) (hs : s.size ≤ 140737488351232) (k : Nat) (hk : s.size < k) : source_lead.f k s is = some (skipN s is 0 : Int) :=
  lead_l0 s is hs s.size 0 k (by omega) (by omega) hk
theorem lead_part (s : ByteArray) (is : Bool) (hs : s.size ≤ 140737488351232) (p : Nat) (hp : p ≤ s.size) (k : Nat) (hk : s.size < k) :
    source_lead.f k (s.extract p s.size) is = some ((skipN s is p - p : Nat) : Int) := by
  have hsz : (s.extract p s.size).size = s.size - p := by rw [ByteArray.size_extract]; omega
  rw [lead_f _ _ (by omega) k (by omega)]
  have := skipN_extract (is := is) hp 0 (by omega)
  rw [Nat.add_zero] at this
  congr 2; omega
theorem word_f (s : ByteArray) (a : Int) (hs : s.size ≤ 140737488351232) (k : Nat) (hk : s.size < k) :
    source_Word.f k s a = some (s.extract (wordFrom s (placeOf s a)) (wordTo s (placeOf s a)), (wordFrom s (placeOf s a) : Int), (wordNext s (placeOf s a) : Int)) := by
  have hp := placeOf_le s a
  have h1 := wordFrom_le hp
  have h2 := wordTo_le hp
  have h3 := wordFrom_ge s (placeOf s a)
  have h4 := wordTo_ge s (placeOf s a)
  rw [source_Word.f, place_eq]
  generalize placeOf s a = p at *
  rw [if_pos (by omega), if_pos (by omega), Int.toNat_natCast, lead_part s true hs p hp k hk, Option.bind_some]
  have e1 : wrap64 ((p : Int) + ((skipN s true p - p : Nat) : Int)) = (wordFrom s p : Int) := by
    rw [wrap64_of] <;> unfold wordFrom at * <;> omega
  rw [e1, if_pos (by omega), if_pos (by omega), Int.toNat_natCast, lead_part s false hs _ h1 k hk, Option.bind_some]
  have e2 : wrap64 ((wordFrom s p : Int) + ((skipN s false (wordFrom s p) - wordFrom s p : Nat) : Int)) = (wordTo s p : Int) := by
    rw [wrap64_of] <;> unfold wordTo at * <;> omega
  rw [e2, if_pos (by omega), if_pos (by omega), Int.toNat_natCast, wrap64_of (by omega) (by omega), show (wordTo s p : Int) + 1 = ((wordTo s p + 1 : Nat) : Int) by omega, mn_nat]
  rfl
theorem rword_l1 (s : ByteArray) (f : Nat) (hs : s.size ≤ 140737488351232) : ∀ (n i k : Nat), s.size - i = n → i ≤ s.size → f ≤ i → n < k →
    carrelref20_Word.l1 k s (f : Int) (i : Int) = some (s.extract f (skipN s false i), (f : Int), ((min (skipN s false i + 1) s.size : Nat) : Int))
  | n, i, 0, _, _, _, h => by omega
  | n, i, k + 1, hn, hi, hf, hk => by
    rw [carrelref20_Word.l1]
    by_cases hlt : i < s.size
    · rw [if_pos (by omega), if_pos (by omega)]
      by_cases hb : bt s (i : Int) > 32
      · rw [if_pos hb, wrap64_of (by omega) (by omega), skipN_go hlt (by simpa using hb)]
        exact rword_l1 s f hs (n - 1) (i + 1) k (by omega) (by omega) (by omega) (by omega)
      · rw [if_neg hb, skipN_stop (by simpa using hb), if_pos (by omega), if_pos (by omega), if_pos (by omega), Int.toNat_natCast, Int.toNat_natCast, wrap64_of (by omega) (by omega), show (i : Int) + 1 = ((i + 1 : Nat) : Int) by omega, mn_nat]
    · rw [if_neg (by omega), skipN_end (by omega), if_pos (by omega), if_pos (by omega), if_pos (by omega), Int.toNat_natCast, Int.toNat_natCast, wrap64_of (by omega) (by omega), show (i : Int) + 1 = ((i + 1 : Nat) : Int) by omega, mn_nat]
theorem rword_j1 (s : ByteArray) (hs : s.size ≤ 140737488351232) (i k : Nat) (hi : i ≤ s.size) (hk : s.size + 1 < k) :
    carrelref20_Word.j1 k s (i : Int) = some (s.extract i (skipN s false i), (i : Int), ((min (skipN s false i + 1) s.size : Nat) : Int)) := by
  obtain ⟨k, rfl⟩ : ∃ j, k = j + 1 := ⟨k - 1, by omega⟩
  rw [carrelref20_Word.j1]
  exact rword_l1 s i hs _ i k rfl hi (Nat.le_refl _) (by omega)
theorem rword_l0 (s : ByteArray) (hs : s.size ≤ 140737488351232) : ∀ (n i k : Nat), s.size - i = n → i ≤ s.size → n + s.size + 2 < k →
    carrelref20_Word.l0 k s (i : Int) = some (s.extract (wordFrom s i) (wordTo s i), (wordFrom s i : Int), (wordNext s i : Int))
  | n, i, 0, _, _, h => by omega
  | n, i, k + 1, hn, hi, hk => by
    rw [carrelref20_Word.l0]
    by_cases hlt : i < s.size
    · rw [if_pos (by omega), if_pos (by omega)]
      by_cases hb : bt s (i : Int) ≤ 32
      · have e : wordFrom s i = wordFrom s (i + 1) := skipN_go hlt (by simpa using hb)
        rw [if_pos hb, wrap64_of (by omega) (by omega), wordNext, wordTo, e]
        exact rword_l0 s hs (n - 1) (i + 1) k (by omega) (by omega) (by omega)
      · have e : wordFrom s i = i := skipN_stop (by simpa using hb)
        rw [if_neg hb, rword_j1 s hs i k hi (by omega), wordNext, wordTo, e]
    · have e : wordFrom s i = i := skipN_end (by omega)
      rw [if_neg (by omega), rword_j1 s hs i k hi (by omega), wordNext, wordTo, e]
theorem rword_f (s : ByteArray) (a : Int) (hs : s.size ≤ 140737488351232) (k : Nat) (hk : 2 * s.size + 2 < k) :
    carrelref20_Word.f k s a = some (s.extract (wordFrom s (placeOf s a)) (wordTo s (placeOf s a)), (wordFrom s (placeOf s a) : Int), (wordNext s (placeOf s a) : Int)) := by
  rw [carrelref20_Word.f, carrelref20_place.f, place_eq, Option.bind_some]
  exact rword_l0 s hs _ _ k rfl (placeOf_le s a) (by omega)
theorem rtrim_l1 (x : ByteArray) (hs : x.size ≤ 140737488351232) : ∀ (n k : Nat), n ≤ x.size → n < k → carrelref20_Trim.l1 k (x.extract 0 n) = some (x.extract 0 (cutN x n))
  | n, 0, _, h => by omega
  | 0, k + 1, _, _ => by
    rw [carrelref20_Trim.l1, if_neg (by rw [ByteArray.size_extract]; omega)]
    rfl
  | n + 1, k + 1, hn, hk => by
    have hsz : (x.extract 0 (n + 1)).size = n + 1 := by rw [ByteArray.size_extract]; omega
    rw [carrelref20_Trim.l1, hsz, if_pos (by omega), wrap64_of (by omega) (by omega), show ((n + 1 : Nat) : Int) - 1 = (n : Int) by omega, if_pos (by omega), if_pos (by omega)]
    have hb := bt_extract (s := x) (p := 0) (q := n + 1) (i := n) hn (by omega)
    rw [Nat.zero_add] at hb
    rw [hb, cutN]
    by_cases h : bt x (n : Int) ≤ 32
    · rw [if_pos h, if_pos (by omega), if_pos h, Int.toNat_natCast, extract_extract0 _ _ _ (by omega)]
      exact rtrim_l1 x hs n k (by omega) (by omega)
    · rw [if_neg h, if_neg h]
theorem rtrim_j1 (x : ByteArray) (hs : x.size ≤ 140737488351232) (k : Nat) (hk : x.size + 1 < k) : carrelref20_Trim.j1 k x = some (x.extract 0 (cutN x x.size)) := by
  obtain ⟨k, rfl⟩ : ∃ j, k = j + 1 := ⟨k - 1, by omega⟩
  rw [carrelref20_Trim.j1]
  have h := rtrim_l1 x hs x.size k (Nat.le_refl _) (by omega)
  rwa [extract_all] at h
theorem rtrim_l0 (s : ByteArray) (hs : s.size ≤ 140737488351232) : ∀ (n i k : Nat), s.size - i = n → i ≤ s.size → n + s.size + 2 < k →
    carrelref20_Trim.l0 k (s.extract i s.size) = some ((s.extract (skipN s true i) s.size).extract 0 (cutN (s.extract (skipN s true i) s.size) (s.size - skipN s true i)))
  | n, i, 0, _, _, h => by omega
  | n, i, k + 1, hn, hi, hk => by
    have hsz : (s.extract i s.size).size = s.size - i := by rw [ByteArray.size_extract]; omega
    rw [carrelref20_Trim.l0, hsz]
    by_cases hlt : i < s.size
    · have hb := bt_extract (s := s) (p := i) (q := s.size) (i := 0) (Nat.le_refl _) (by omega)
      rw [Nat.add_zero] at hb
      rw [if_pos (by omega), if_pos (by omega), show (0 : Int) = ((0 : Nat) : Int) from rfl, hb]
      by_cases h : bt s (i : Int) ≤ 32
      · rw [if_pos h, if_pos (by omega), extract_from _ _ _ hi (by omega), skipN_go hlt (by simpa using h)]
        exact rtrim_l0 s hs (n - 1) (i + 1) k (by omega) (by omega) (by omega)
      · rw [if_neg h, skipN_stop (by simpa using h), rtrim_j1 _ (by omega) _ (by omega), hsz]
    · rw [if_neg (by omega), skipN_end (by omega), rtrim_j1 _ (by omega) _ (by omega), hsz]
theorem rtrim_f (s : ByteArray) (hs : s.size ≤ 140737488351232) (k : Nat) (hk : 2 * s.size + 2 < k) :
    carrelref20_Trim.f k s = some ((s.extract (skipN s true 0) s.size).extract 0 (cutN (s.extract (skipN s true 0) s.size) (s.size - skipN s true 0))) := by
  have h := rtrim_l0 s hs s.size 0 k (by omega) (by omega) (by omega)
  rw [extract_all] at h
  exact h
theorem awake_f : carrellaw20_awake.f 10 = some true := by decide +kernel
theorem awake_any (w : World) : Calls Try.prog 8 #[] w fun e w' => e = .returned (.bool true) ∧ Below w.heap.size w w' := by
  refine (carrellaw20_awake.calls 10 true w awake_f).mono ?_
  rintro e w' ⟨rfl, hb⟩
  exact ⟨rfl, hb⟩
theorem word_any (s : ByteArray) (a : Int) (hs : s.size ≤ 140737488351232) (w : World) : Calls Try.prog 9 #[.string s, .int .i64 a] w fun e w' =>
    e = .returned (.tuple #[.string (s.extract (wordFrom s (placeOf s a)) (wordTo s (placeOf s a))), .int .i64 (wordFrom s (placeOf s a) : Int), .int .i64 (wordNext s (placeOf s a) : Int)]) ∧ Below w.heap.size w w' :=
  source_Word.calls (s.size + 1) s a _ _ _ w (word_f s a hs _ (by omega))
theorem rword_any (s : ByteArray) (a : Int) (hs : s.size ≤ 140737488351232) (w : World) : Calls Try.prog 10 #[.string s, .int .i64 a] w fun e w' =>
    e = .returned (.tuple #[.string (s.extract (wordFrom s (placeOf s a)) (wordTo s (placeOf s a))), .int .i64 (wordFrom s (placeOf s a) : Int), .int .i64 (wordNext s (placeOf s a) : Int)]) ∧ Below w.heap.size w w' := by
  refine (carrelref20_Word.calls (2 * s.size + 3) s a _ _ _ w (rword_f s a hs _ (by omega))).mono ?_
  rintro e w' ⟨rfl, hb⟩
  exact ⟨rfl, hb⟩
/-- What Trim leaves. -/
def trimOf (s : ByteArray) : ByteArray := (s.extract (skipN s true 0) s.size).extract 0 (cutN (s.extract (skipN s true 0) s.size) (s.size - skipN s true 0))
theorem rtrim_any (s : ByteArray) (hs : s.size ≤ 140737488351232) (w : World) : Calls Try.prog 14 #[.string s] w fun e w' => e = .returned (.string (trimOf s)) ∧ Below w.heap.size w w' := by
  refine (carrelref20_Trim.calls (2 * s.size + 3) s _ w (rtrim_f s hs _ (by omega))).mono ?_
  rintro e w' ⟨rfl, n, rfl⟩
  exact ⟨rfl, below_drewN (Below.refl _ _) _⟩
/-- Blanks alone: nothing is left. -/
theorem trim_blank (s : ByteArray) (h : skipN s true 0 = s.size) : trimOf s = ⟨#[]⟩ := by
  have hz : (trimOf s).size = 0 := by
    unfold trimOf
    have := cutN_le (s.extract (skipN s true 0) s.size) (s.size - skipN s true 0)
    rw [ByteArray.size_extract, ByteArray.size_extract, h]
    omega
  generalize trimOf s = x at hz
  rcases x with ⟨d⟩
  have : d.size = 0 := hz
  rw [Array.eq_empty_of_size_eq_zero this]
/-- Where the k-th word is looked for. -/
def placeN (s : ByteArray) : Nat → Nat
  | 0 => 0
  | k + 1 => wordNext s (placeN s k)
theorem placeN_le (s : ByteArray) : ∀ k, placeN s k ≤ s.size
  | 0 => Nat.zero_le _
  | k + 1 => Nat.min_le_right _ _
theorem placeOf_nat {s : ByteArray} {p : Nat} (h : p ≤ s.size) : placeOf s (p : Int) = p := by unfold placeOf; omega
def there (s : ByteArray) (k : Nat) : Prop := wordFrom s (placeN s k) < wordTo s (placeN s k)
theorem placeN_lt {s : ByteArray} {k : Nat} (h : there s k) : placeN s k < placeN s (k + 1) := by
  have h1 := wordFrom_ge s (placeN s k)
  have h2 := wordTo_le (placeN_le s k)
  unfold there at h
  show _ < wordNext s (placeN s k)
  unfold wordNext
  omega
theorem placeN_ge {s : ByteArray} : ∀ k, (∀ i, i < k → there s i) → k ≤ placeN s k
  | 0, _ => Nat.zero_le _
  | k + 1, h => by
    have := placeN_ge k (fun i hi => h i (by omega))
    have := placeN_lt (h k (by omega))
    omega
theorem count_le {s : ByteArray} {k : Nat} (h : ∀ i, i < k → there s i) : k ≤ s.size := Nat.le_trans (placeN_ge k h) (placeN_le s k)
/-- The k-th word. -/
def wordN (s : ByteArray) (k : Nat) : Nat × ByteArray := (wordFrom s (placeN s k), s.extract (wordFrom s (placeN s k)) (wordTo s (placeN s k)))
def wordsTo (s : ByteArray) (k : Nat) : List (Nat × ByteArray) := (List.range k).map (wordN s)
theorem wordsTo_succ (s : ByteArray) (k : Nat) : wordsTo s (k + 1) = wordsTo s k ++ [wordN s k] := by simp [wordsTo, List.range_succ]
theorem wordsTo_len (s : ByteArray) (k : Nat) : (wordsTo s k).length = k := by simp [wordsTo]
theorem wordN_size (s : ByteArray) (k : Nat) : (wordN s k).2.size = wordTo s (placeN s k) - wordFrom s (placeN s k) := by
  unfold wordN
  have := wordTo_le (placeN_le s k)
  rw [ByteArray.size_extract]; omega
theorem nil_of_size {x : ByteArray} (hz : x.size = 0) : x = ⟨#[]⟩ := by
  rcases x with ⟨d⟩
  have : d.size = 0 := hz
  rw [Array.eq_empty_of_size_eq_zero this]
/-- The blanks ahead of a word. -/
theorem trim_gap (s : ByteArray) (p : Nat) (hp : p ≤ s.size) : trimOf (s.extract p (wordFrom s p)) = ⟨#[]⟩ := by
  have hge := wordFrom_ge s p
  have hle := wordFrom_le hp
  have hsz : (s.extract p (wordFrom s p)).size = wordFrom s p - p := by rw [ByteArray.size_extract]; omega
  apply trim_blank
  have h1 := skipN_le (s := s.extract p (wordFrom s p)) (is := true) (i := 0) (by omega)
  rcases Nat.lt_or_ge (skipN (s.extract p (wordFrom s p)) true 0) (s.extract p (wordFrom s p)).size with h | h
  · exfalso
    have h2 := skipN_at h
    rw [bt_extract hle (by omega)] at h2
    exact h2 (skipN_in p _ (by omega) (by show _ < wordFrom s p; omega))
  · omega
/-- Behind the last word there are blanks alone. -/
theorem trim_rest (s : ByteArray) (k : Nat) (h : ¬ there s k) : trimOf (s.extract (placeN s k) s.size) = ⟨#[]⟩ := by
  have hp := placeN_le s k
  have hf : wordFrom s (placeN s k) = s.size := by
    have hle := wordFrom_le hp
    have hge := wordTo_ge s (placeN s k)
    unfold there at h
    rcases Nat.lt_or_ge (wordFrom s (placeN s k)) s.size with h1 | h1
    · exfalso
      have h2 := skipN_at (s := s) (is := true) (i := placeN s k) h1
      have h3 : skipN s false (wordFrom s (placeN s k)) = skipN s false (wordFrom s (placeN s k) + 1) := skipN_go h1 (by
        revert h2
        show decide (bt s (wordFrom s (placeN s k) : Int) ≤ 32) ≠ true → _
        simp)
      have h4 := skipN_ge s false (wordFrom s (placeN s k) + 1)
      have h5 : wordTo s (placeN s k) = skipN s false (wordFrom s (placeN s k)) := rfl
      omega
    · omega
  have hsz : (s.extract (placeN s k) s.size).size = s.size - placeN s k := by rw [ByteArray.size_extract]; omega
  apply trim_blank
  have := skipN_extract (is := true) hp 0 (by omega)
  rw [Nat.add_zero] at this
  have h2 : skipN s true (placeN s k) = wordFrom s (placeN s k) := rfl
  omega
end Go.Proofs.Ytkdmjkknkefemaa.Each
