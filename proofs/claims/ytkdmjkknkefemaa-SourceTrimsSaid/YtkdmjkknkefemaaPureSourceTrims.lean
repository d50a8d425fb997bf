/-
  SourceTrims, plain.
-/
import Derived.Test.YtkdmjkknkefemaaSrc
import Derived.Test.YtkdmjkknkefemaaPSourceTrimsx2
namespace Go.Proofs.Ytkdmjkknkefemaa.Pure
open Go.RowKit Go.Proofs.Ytkdmjkknkefemaa Go.Proofs.Ytkdmjkknkefemaa.PSourceTrims Go.Proofs.YtkdmjkknkefemaaW.PrintWords Go.Proofs.YtkdmjkknkefemaaW.PrintLast Go.Proofs.YtkdmjkknkefemaaW.PrintMore

theorem lead_l0 (s : ByteArray) (is : Bool) (hs : s.size ≤ 140737488351232) : ∀ (n i k : Nat), s.size - i = n → i ≤ s.size → n < k → source_lead.l0 k s is (s.size : Int) (i : Int) = some (skipN s is i : Int)
  | n, i, 0, _, _, h => by omega
  | n, i, k + 1, hn, hi, hk => by
    rw [source_lead.l0]
    by_cases hlt : i < s.size
    · rw [if_pos (by omega), if_pos (by omega), if_pos (by omega)]
      simp only [source_blank.f, Option.bind_some]
      by_cases hb : decide (bt s (i : Int) ≤ 32) = is
      · rw [if_neg (by simp [hb]), wrap64_of (by omega) (by omega), skipN_go hlt hb]
        exact lead_l0 s is hs (n - 1) (i + 1) k (by omega) (by omega) (by omega)
      · rw [if_pos (by simpa using hb), skipN_stop hb]
    · rw [if_neg (by omega), skipN_end (by omega)]
      congr 2; omega
theorem lead_f (s : ByteArray) (is : Bool) (hs : s.size ≤ 140737488351232) (k : Nat) (hk : s.size < k) : source_lead.f k s is = some (skipN s is 0 : Int) :=
  lead_l0 s is hs s.size 0 k (by omega) (by omega) hk
theorem lead_part (s : ByteArray) (is : Bool) (hs : s.size ≤ 140737488351232) (p : Nat) (hp : p ≤ s.size) (k : Nat) (hk : s.size < k) :
    source_lead.f k (s.extract p s.size) is = some ((skipN s is p - p : Nat) : Int) := by
  have hsz : (s.extract p s.size).size = s.size - p := by rw [ByteArray.size_extract]; omega
  rw [lead_f _ _ (by omega) k (by omega)]
  have := skipN_extract (is := is) hp 0 (by omega)
  rw [Nat.add_zero] at this
  congr 2; omega
theorem trim_l0 (x : ByteArray) (hs : x.size ≤ 140737488351232) : ∀ (n k : Nat), n ≤ x.size → n < k → source_Trim.l0 k (x.extract 0 n) = some (x.extract 0 (cutN x n))
  | n, 0, _, h => by omega
  | 0, k + 1, _, _ => by
    rw [source_Trim.l0, if_pos (size_nil (by rw [ByteArray.size_extract]; omega))]
    rfl
  | n + 1, k + 1, hn, hk => by
    have hsz : (x.extract 0 (n + 1)).size = n + 1 := by rw [ByteArray.size_extract]; omega
    rw [source_Trim.l0, if_neg (fun h => by have := nil_size h; omega), hsz, wrap64_of (by omega) (by omega), show ((n + 1 : Nat) : Int) - 1 = (n : Int) by omega, if_pos (by omega), if_pos (by omega)]
    have hb := bt_extract (s := x) (p := 0) (q := n + 1) (i := n) hn (by omega)
    rw [Nat.zero_add] at hb
    simp only [source_blank.f, Option.bind_some]
    rw [hb, cutN]
    by_cases h : bt x (n : Int) ≤ 32
    · rw [if_pos (decide_eq_true h), if_pos (by omega), if_pos h, Int.toNat_natCast, extract_extract0 _ _ _ (by omega)]
      exact trim_l0 x hs n k (by omega) (by omega)
    · rw [if_neg (by simpa using h), if_neg h]
theorem trim_f (s : ByteArray) (hs : s.size ≤ 140737488351232) (k : Nat) (hk : s.size < k) :
    source_Trim.f k s = some ((s.extract (skipN s true 0) s.size).extract 0 (cutN (s.extract (skipN s true 0) s.size) (s.size - skipN s true 0))) := by
  have hle := skipN_le (s := s) (is := true) (i := 0) (by omega)
  rw [source_Trim.f, lead_f s true hs k hk, Option.bind_some, if_pos (by omega), if_pos (by omega), Int.toNat_natCast]
  have hsz : (s.extract (skipN s true 0) s.size).size = s.size - skipN s true 0 := by rw [ByteArray.size_extract]; omega
  have h := trim_l0 (s.extract (skipN s true 0) s.size) (by omega) (s.size - skipN s true 0) k (by omega) (by omega)
  rw [← hsz, extract_all, hsz] at h
  exact h
theorem rtrim_l1 (x : ByteArray) (hs : x.size ≤ 140737488351232) : ∀ (n k : Nat), n ≤ x.size → n < k → carrelref20_Trim.l1 k (x.extract 0 n) = some (x.extract 0 (cutN x n))
  | n, 0, _, h => by omega
  | 0, k + 1, _, _ => by
    rw [carrelref20_Trim.l1, if_neg (by rw [ByteArray.size_extract]; omega)]
    rfl
  | n + 1, k + 1, hn, hk => by
    have hsz : (x.extract 0 (n + 1)).size = n + 1 := by rw [ByteArray.size_extract]; omega
    rw [carrelref20_Trim.l1, hsz, if_pos (by omega), wrap64_of (by omega) (by omega), show ((n + 1 : Nat) : Int) - 1 = (n : Int) by omega, if_pos (by omega), if_pos (by omega)]
    have hb := bt_extract (s := x) (p := 0) (q := n + 1) (i := n) hn (by omega)
    rw [Nat.zero_add] at hb
    rw [hb, cutN]
    by_cases h : bt x (n : Int) ≤ 32
    · rw [if_pos h, if_pos (by omega), if_pos h, Int.toNat_natCast, extract_extract0 _ _ _ (by omega)]
      exact rtrim_l1 x hs n k (by omega) (by omega)
    · rw [if_neg h, if_neg h]
theorem rtrim_j1 (x : ByteArray) (hs : x.size ≤ 140737488351232) (k : Nat) (hk : x.size + 1 < k) : carrelref20_Trim.j1 k x = some (x.extract 0 (cutN x x.size)) := by
  obtain ⟨k, rfl⟩ : ∃ j, k = j + 1 := ⟨k - 1, by omega⟩
  rw [carrelref20_Trim.j1]
  have h := rtrim_l1 x hs x.size k (Nat.le_refl _) (by omega)
  rwa [extract_all] at h
theorem rtrim_l0 (s : ByteArray) (hs : s.size ≤ 140737488351232) : ∀ (n i k : Nat), s.size - i = n → i ≤ s.size → n + s.size + 2 < k →
    carrelref20_Trim.l0 k (s.extract i s.size) = some ((s.extract (skipN s true i) s.size).extract 0 (cutN (s.extract (skipN s true i) s.size) (s.size - skipN s true i)))
  | n, i, 0, _, _, h => by omega
  | n, i, k + 1, hn, hi, hk => by
    have hsz : (s.extract i s.size).size = s.size - i := by rw [ByteArray.size_extract]; omega
    rw [carrelref20_Trim.l0, hsz]
    by_cases hlt : i < s.size
    · have hb := bt_extract (s := s) (p := i) (q := s.size) (i := 0) (Nat.le_refl _) (by omega)
      rw [Nat.add_zero] at hb
      rw [if_pos (by omega), if_pos (by omega), show (0 : Int) = ((0 : Nat) : Int) from rfl, hb]
      by_cases h : bt s (i : Int) ≤ 32
      · rw [if_pos h, if_pos (by omega), extract_from _ _ _ hi (by omega), skipN_go hlt (by simpa using h)]
        exact rtrim_l0 s hs (n - 1) (i + 1) k (by omega) (by omega) (by omega)
      · rw [if_neg h, skipN_stop (by simpa using h), rtrim_j1 _ (by omega) _ (by omega), hsz]
    · rw [if_neg (by omega), skipN_end (by omega), rtrim_j1 _ (by omega) _ (by omega), hsz]
theorem rtrim_f (s : ByteArray) (hs : s.size ≤ 140737488351232) (k : Nat) (hk : 2 * s.size + 2 < k) :
    carrelref20_Trim.f k s = some ((s.extract (skipN s true 0) s.size).extract 0 (cutN (s.extract (skipN s true 0) s.size) (s.size - skipN s true 0))) := by
  have h := rtrim_l0 s hs s.size 0 k (by omega) (by omega) (by omega)
  rw [extract_all] at h
  exact h
theorem awake_f : ∀ n, carrellaw20_awake.f (10 + n) = some true
  | 0 => by decide +kernel
  | n + 1 => carrellaw20_awake.mono _ _ (awake_f n)
theorem SourceTrims : carrellaw20_SourceTrims.Pure := by
  intro s hs
  refine ⟨10 + (2 * s.size + 3), ?_⟩
  rw [carrellaw20_SourceTrims.f, awake_f, Option.bind_some, if_pos rfl]
  split
  · rfl
  · rw [trim_f s hs _ (by omega), rtrim_f s hs _ (by omega), Option.bind_some, Option.bind_some]
    simp
end Go.Proofs.Ytkdmjkknkefemaa.Pure
