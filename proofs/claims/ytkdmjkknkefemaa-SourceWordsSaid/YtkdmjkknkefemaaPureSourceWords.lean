/-
  SourceWords, plain.
-/
import Derived.Test.YtkdmjkknkefemaaSrc
import Derived.Test.YtkdmjkknkefemaaPSourceWordsx2
namespace Go.Proofs.Ytkdmjkknkefemaa.Pure
open Go.RowKit Go.Proofs.Ytkdmjkknkefemaa Go.Proofs.Ytkdmjkknkefemaa.PSourceWords Go.Proofs.YtkdmjkknkefemaaW.PrintWords Go.Proofs.YtkdmjkknkefemaaW.PrintLast Go.Proofs.YtkdmjkknkefemaaW.PrintMore

theorem lead_l0 (s : ByteArray) (is : Bool) (hs : s.size ≤ 140737488351232) : ∀ (n i k : Nat), s.size - i = n → i ≤ s.size → n < k → source_lead.l0 k s is (s.size : Int) (i : Int) = some (skipN s is i : Int)
  | n, i, 0, _, _, h => by omega
  | n, i, k + 1, hn, hi, hk => by
    rw [source_lead.l0]
    by_cases hlt : i < s.size
    · rw [if_pos (by omega), if_pos (by omega), if_pos (by omega)]
      simp only [source_blank.f, Option.bind_some]
      by_cases hb : decide (bt s (i : Int) ≤ 32) = is
      · rw [if_neg (by simp [hb]), wrap64_of (by omega) (by omega), skipN_go hlt hb]
        exact lead_l0 s is hs (n - 1) (i + 1) k (by omega) (by omega) (by omega)
      · rw [if_pos (by simpa using hb), skipN_stop hb]
    · rw [if_neg (by omega), skipN_end (by omega)]
      congr 2; omega
theorem lead_f (s : ByteArray) (is : Bool) (hs : s.size ≤ 140737488351232) (k : Nat) (hk : s.size < k) : source_lead.f k s is = some (skipN s is 0 : Int) :=
  lead_l0 s is hs s.size 0 k (by omega) (by omega) hk
theorem lead_part (s : ByteArray) (is : Bool) (hs : s.size ≤ 140737488351232) (p : Nat) (hp : p ≤ s.size) (k : Nat) (hk : s.size < k) :
    source_lead.f k (s.extract p s.size) is = some ((skipN s is p - p : Nat) : Int) := by
  have hsz : (s.extract p s.size).size = s.size - p := by rw [ByteArray.size_extract]; omega
  rw [lead_f _ _ (by omega) k (by omega)]
  have := skipN_extract (is := is) hp 0 (by omega)
  rw [Nat.add_zero] at this
  congr 2; omega
theorem word_f (s : ByteArray) (a : Int) (hs : s.size ≤ 140737488351232) (k : Nat) (hk : s.size < k) :
    source_Word.f k s a = some (s.extract (wordFrom s (placeOf s a)) (wordTo s (placeOf s a)), (wordFrom s (placeOf s a) : Int), (wordNext s (placeOf s a) : Int)) := by
  have hp := placeOf_le s a
  have h1 := wordFrom_le hp
  have h2 := wordTo_le hp
  have h3 := wordFrom_ge s (placeOf s a)
  have h4 := wordTo_ge s (placeOf s a)
  rw [source_Word.f, place_eq]
  generalize placeOf s a = p at *
  rw [if_pos (by omega), if_pos (by omega), Int.toNat_natCast, lead_part s true hs p hp k hk, Option.bind_some]
  have e1 : wrap64 ((p : Int) + ((skipN s true p - p : Nat) : Int)) = (wordFrom s p : Int) := by
    rw [wrap64_of] <;> unfold wordFrom at * <;> omega
  rw [e1, if_pos (by omega), if_pos (by omega), Int.toNat_natCast, lead_part s false hs _ h1 k hk, Option.bind_some]
  have e2 : wrap64 ((wordFrom s p : Int) + ((skipN s false (wordFrom s p) - wordFrom s p : Nat) : Int)) = (wordTo s p : Int) := by
    rw [wrap64_of] <;> unfold wordTo at * <;> omega
  rw [e2, if_pos (by omega), if_pos (by omega), Int.toNat_natCast, wrap64_of (by omega) (by omega), show (wordTo s p : Int) + 1 = ((wordTo s p + 1 : Nat) : Int) by omega, mn_nat]
  rfl
theorem rword_l1 (s : ByteArray) (f : Nat) (hs : s.size ≤ 140737488351232) : ∀ (n i k : Nat), s.size - i = n → i ≤ s.size → f ≤ i → n < k →
    carrelref20_Word.l1 k s (f : Int) (i : Int) = some (s.extract f (skipN s false i), (f : Int), ((min (skipN s false i + 1) s.size : Nat) : Int))
  | n, i, 0, _, _, _, h => by omega
  | n, i, k + 1, hn, hi, hf, hk => by
    rw [carrelref20_Word.l1]
    by_cases hlt : i < s.size
    · rw [if_pos (by omega), if_pos (by omega)]
      by_cases hb : bt s (i : Int) > 32
      · rw [if_pos hb, wrap64_of (by omega) (by omega), skipN_go hlt (by simpa using hb)]
        exact rword_l1 s f hs (n - 1) (i + 1) k (by omega) (by omega) (by omega) (by omega)
      · rw [if_neg hb, skipN_stop (by simpa using hb), if_pos (by omega), if_pos (by omega), if_pos (by omega), Int.toNat_natCast, Int.toNat_natCast, wrap64_of (by omega) (by omega), show (i : Int) + 1 = ((i + 1 : Nat) : Int) by omega, mn_nat]
    · rw [if_neg (by omega), skipN_end (by omega), if_pos (by omega), if_pos (by omega), if_pos (by omega), Int.toNat_natCast, Int.toNat_natCast, wrap64_of (by omega) (by omega), show (i : Int) + 1 = ((i + 1 : Nat) : Int) by omega, mn_nat]
theorem rword_j1 (s : ByteArray) (hs : s.size ≤ 140737488351232) (i k : Nat) (hi : i ≤ s.size) (hk : s.size + 1 < k) :
    carrelref20_Word.j1 k s (i : Int) = some (s.extract i (skipN s false i), (i : Int), ((min (skipN s false i + 1) s.size : Nat) : Int)) := by
  obtain ⟨k, rfl⟩ : ∃ j, k = j + 1 := ⟨k - 1, by omega⟩
  rw [carrelref20_Word.j1]
  exact rword_l1 s i hs _ i k rfl hi (Nat.le_refl _) (by omega)
theorem rword_l0 (s : ByteArray) (hs : s.size ≤ 140737488351232) : ∀ (n i k : Nat), s.size - i = n → i ≤ s.size → n + s.size + 2 < k →
    carrelref20_Word.l0 k s (i : Int) = some (s.extract (wordFrom s i) (wordTo s i), (wordFrom s i : Int), (wordNext s i : Int))
  | n, i, 0, _, _, h => by omega
  | n, i, k + 1, hn, hi, hk => by
    rw [carrelref20_Word.l0]
    by_cases hlt : i < s.size
    · rw [if_pos (by omega), if_pos (by omega)]
      by_cases hb : bt s (i : Int) ≤ 32
      · have e : wordFrom s i = wordFrom s (i + 1) := skipN_go hlt (by simpa using hb)
        rw [if_pos hb, wrap64_of (by omega) (by omega), wordNext, wordTo, e]
        exact rword_l0 s hs (n - 1) (i + 1) k (by omega) (by omega) (by omega)
      · have e : wordFrom s i = i := skipN_stop (by simpa using hb)
        rw [if_neg hb, rword_j1 s hs i k hi (by omega), wordNext, wordTo, e]
    · have e : wordFrom s i = i := skipN_end (by omega)
      rw [if_neg (by omega), rword_j1 s hs i k hi (by omega), wordNext, wordTo, e]
theorem rword_f (s : ByteArray) (a : Int) (hs : s.size ≤ 140737488351232) (k : Nat) (hk : 2 * s.size + 2 < k) :
    carrelref20_Word.f k s a = some (s.extract (wordFrom s (placeOf s a)) (wordTo s (placeOf s a)), (wordFrom s (placeOf s a) : Int), (wordNext s (placeOf s a) : Int)) := by
  rw [carrelref20_Word.f, carrelref20_place.f, place_eq, Option.bind_some]
  exact rword_l0 s hs _ _ k rfl (placeOf_le s a) (by omega)
theorem awake_f : ∀ n, carrellaw20_awake.f (10 + n) = some true
  | 0 => by decide +kernel
  | n + 1 => carrellaw20_awake.mono _ _ (awake_f n)
theorem SourceWords : carrellaw20_SourceWords.Pure := by
  intro s a hs _
  refine ⟨10 + (2 * s.size + 3), ?_⟩
  rw [carrellaw20_SourceWords.f, awake_f, Option.bind_some, if_pos rfl]
  split
  · rfl
  · rw [word_f s a hs _ (by omega), rword_f s a hs _ (by omega), Option.bind_some, Option.bind_some]
    simp
end Go.Proofs.Ytkdmjkknkefemaa.Pure
