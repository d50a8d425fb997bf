/-
  DigitsReads: the reference's Number tells the same; the examples; the law's walk.
-/
import Derived.Test.YtkmnlbjnohjjgaaNum
import Derived.Test.YtkmnlbjnohjjgaaPDigitsReadsx1
import Derived.Test.YtkmnlbjnohjjgaaPDigitsReadsx2
namespace Go.Proofs.Ytkmnlbjnohjjgaa
open Go.RowKit
open Go.Proofs.Ytkmnlbjnohjjgaa.PDigitsReads (carrelref15_worth.f carrelref15_worth.j0 carrelref15_worth.j1 carrelref15_Number.f carrelref15_Number.j0 carrelref15_Number.j1 carrelref15_Number.j2 carrelref15_Number.j3 carrelref15_Number.l0 carrelref15_Base.f digits_Show.f digits_ShowU.f)
set_option linter.unusedVariables false

theorem bt_int (s : ByteArray) (i : Nat) : Go.Proofs.YtkmnlbjnohjjgaaW.PrintWords.bt s (i : Int) = Ytkmnlbjnohjjgaa.bt s i := by
  unfold Go.Proofs.YtkmnlbjnohjjgaaW.PrintWords.bt Ytkmnlbjnohjjgaa.bt
  simp only [Int.toNat_natCast]
def worthF (c : Int) : Int := if worthR c = 36 then 99 else worthR c
theorem rworth_f (c : Int) (h0 : 0 ≤ c) (h1 : c < 256) (k : Nat) (hk : 2 ≤ k) : carrelref15_worth.f k c = some (worthF c) := by
  obtain ⟨k, rfl⟩ : ∃ j, k = j + 2 := ⟨k - 2, by omega⟩
  have hs : c < 48 ∨ 48 ≤ c ∧ c ≤ 57 ∨ 57 < c ∧ c < 65 ∨ 65 ≤ c ∧ c ≤ 90 ∨ 90 < c ∧ c < 97 ∨ 97 ≤ c ∧ c ≤ 122 ∨ 122 < c := by omega
  have hw : ∀ v, worthR c = v → v ≠ 36 → worthF c = v := fun v h h' => by unfold worthF; rw [h, if_neg h']
  have hw' : worthR c = 36 → worthF c = 99 := fun h => by unfold worthF; rw [if_pos h]
  unfold worthR at hw hw'
  rcases hs with s0 | ⟨s0, s1⟩ | ⟨s0, s1⟩ | ⟨s0, s1⟩ | ⟨s0, s1⟩ | ⟨s0, s1⟩ | s0
  · rw [hw' (by rw [if_neg (by omega), if_neg (by omega), if_neg (by omega)])]
    simp [carrelref15_worth.f, carrelref15_worth.j0, carrelref15_worth.j1, show ¬ c ≥ 48 by omega, show ¬ c ≥ 65 by omega, show ¬ c ≥ 97 by omega]
  · rw [hw (c - 48) (by rw [if_pos (by omega)]) (by omega)]
    simp [carrelref15_worth.f, carrelref15_worth.j0, carrelref15_worth.j1, show c ≥ 48 by omega, s1, show (c - 48) % 256 = c - 48 by omega]
  · rw [hw' (by rw [if_neg (by omega), if_neg (by omega), if_neg (by omega)])]
    simp [carrelref15_worth.f, carrelref15_worth.j0, carrelref15_worth.j1, show c ≥ 48 by omega, show ¬ c ≤ 57 by omega, show ¬ c ≥ 65 by omega, show ¬ c ≥ 97 by omega]
  · rw [hw (c - 55) (by rw [if_neg (by omega), if_pos (by omega)]) (by omega)]
    simp [carrelref15_worth.f, carrelref15_worth.j0, carrelref15_worth.j1, show c ≥ 48 by omega, show ¬ c ≤ 57 by omega, show c ≥ 65 by omega, s1, show (c - 65) % 256 + 10 = c - 55 by omega]
  · rw [hw' (by rw [if_neg (by omega), if_neg (by omega), if_neg (by omega)])]
    simp [carrelref15_worth.f, carrelref15_worth.j0, carrelref15_worth.j1, show c ≥ 48 by omega, show ¬ c ≤ 57 by omega, show c ≥ 65 by omega, show ¬ c ≤ 90 by omega, show ¬ c ≥ 97 by omega]
  · rw [hw (c - 87) (by rw [if_neg (by omega), if_neg (by omega), if_pos (by omega)]) (by omega)]
    simp [carrelref15_worth.f, carrelref15_worth.j0, carrelref15_worth.j1, show c ≥ 48 by omega, show ¬ c ≤ 57 by omega, show c ≥ 65 by omega, show ¬ c ≤ 90 by omega, show c ≥ 97 by omega, s1, show (c - 97) % 256 + 10 = c - 87 by omega]
  · rw [hw' (by rw [if_neg (by omega), if_neg (by omega), if_neg (by omega)])]
    simp [carrelref15_worth.f, carrelref15_worth.j0, carrelref15_worth.j1, show c ≥ 48 by omega, show ¬ c ≤ 57 by omega, show c ≥ 65 by omega, show ¬ c ≤ 90 by omega, show c ≥ 97 by omega, show ¬ c ≤ 122 by omega]
/-- The reference's end. -/
def refRes (s : ByteArray) (neg : Bool) : Option Int → Int × Bool
  | none => (0, false)
  | some m => (if neg = true then wrap64 (-m) else m, s.toList != ([] : List UInt8))
theorem rnum_l0 (s : ByteArray) (b : Int) (hb : b ≤ 36) (neg : Bool) (hs : s.size ≤ 140737488351232) : ∀ (r i k : Nat) (n : Int), s.size - i = r → i ≤ s.size → r + 2 < k →
    carrelref15_Number.l0 k s b neg n (i : Int) = some (refRes s neg (readB s b i n))
  | r, i, 0, n, _, _, h => by omega
  | r, i, k + 1, n, hr, hi, hk => by
    rw [carrelref15_Number.l0]
    by_cases hlt : i < s.size
    · have hc := bt_range s i
      rw [if_pos (by omega), if_pos (by omega), bt_int, rworth_f _ hc.1 hc.2 k (by omega), Option.bind_some]
      by_cases h36 : b ≤ worthR (Ytkmnlbjnohjjgaa.bt s i)
      · rw [if_pos (by unfold worthF; have := worth_range (Ytkmnlbjnohjjgaa.bt s i); split <;> omega), readB_no hlt h36]
        rfl
      · have e : worthF (Ytkmnlbjnohjjgaa.bt s i) = worthR (Ytkmnlbjnohjjgaa.bt s i) := by unfold worthF; rw [if_neg (by omega)]
        rw [if_neg (by rw [e]; omega), readB_go hlt h36, show wrap64 ((i : Int) + 1) = ((i + 1 : Nat) : Int) by (rw [wrap64_of] <;> omega), e]
        exact rnum_l0 s b hb neg hs (r - 1) (i + 1) k _ (by omega) (by omega) (by omega)
    · rw [if_neg (by omega), readB_end hlt]
      unfold refRes
      cases neg <;> rfl
theorem wrap64_range (z : Int) : -9223372036854775808 ≤ wrap64 z ∧ wrap64 z ≤ 9223372036854775807 := by unfold wrap64; omega
theorem readB_range (s : ByteArray) (b : Int) : ∀ (r i : Nat) (n m : Int), s.size - i = r → -9223372036854775808 ≤ n ∧ n ≤ 9223372036854775807 → readB s b i n = some m → -9223372036854775808 ≤ m ∧ m ≤ 9223372036854775807
  | r, i, n, m, hr, hn, h => by
    by_cases hlt : i < s.size
    · by_cases h36 : b ≤ worthR (Ytkmnlbjnohjjgaa.bt s i)
      · rw [readB_no hlt h36] at h; cases h
      · rw [readB_go hlt h36] at h
        exact readB_range s b (s.size - (i + 1)) (i + 1) _ m rfl (wrap64_range _) h
    · rw [readB_end hlt] at h
      cases h
      exact hn
  termination_by r => r
  decreasing_by omega
theorem ref_num (s : ByteArray) (b : Int) (neg : Bool) : refRes s neg (readB s b 0 0) = numRes (if neg = true then -1 else 1) s b := by
  unfold numRes
  cases h : readB s b 0 0 with
  | none => rfl
  | some n =>
    have hr := readB_range s b _ 0 0 n rfl (by omega) h
    simp only [refRes]
    rw [PDigitsReads.bne_nil_fix]
    cases neg
    · rw [if_neg (by decide), if_neg (by decide), Int.one_mul, wrap64_of hr.1 hr.2]
    · rw [if_pos rfl, if_pos rfl, show (-1 : Int) * n = -n by omega]
theorem rbase_f (b : Int) : carrelref15_Base.f b = some (baseOf b) := by
  unfold carrelref15_Base.f baseOf
  repeat' split
  all_goals first | rfl | omega
theorem nil_iff {s : ByteArray} : s.toList = ([] : List UInt8) ↔ s.size = 0 := by
  constructor
  · intro h
    rcases Nat.eq_zero_or_pos s.size with h1 | h1
    · exact h1
    · have := nil_no h1
      rw [h] at this; cases this
  · intro h
    exact List.isEmpty_iff.1 (nil_yes h)
theorem rnum_j1 (s : ByteArray) (b : Int) (hb : b ≤ 36) (hs : s.size ≤ 140737488351232) (k : Nat) (hk : s.size + 6 < k) :
    carrelref15_Number.j1 k s b = some (numRes (if decide (0 < s.size ∧ Ytkmnlbjnohjjgaa.bt s 0 = 45) = true then -1 else 1) (if decide (0 < s.size ∧ Ytkmnlbjnohjjgaa.bt s 0 = 45) = true then s.extract 1 s.size else s) b) := by
  obtain ⟨k, rfl⟩ : ∃ j, k = j + 3 := ⟨k - 3, by omega⟩
  have key : ∀ (neg : Bool), (neg = true → 0 < s.size) → carrelref15_Number.j2 (k + 2) s b neg = some (numRes (if neg = true then -1 else 1) (if neg = true then s.extract 1 s.size else s) b) := by
    intro neg hn
    have he : (s.extract 1 s.size).size = s.size - 1 := by rw [ByteArray.size_extract]; omega
    rw [carrelref15_Number.j2]
    cases neg
    · rw [if_neg (by decide), if_neg (by decide), if_neg (by decide), carrelref15_Number.j3]
      have := rnum_l0 s b hb false hs _ 0 k 0 rfl (by omega) (by omega)
      rw [ref_num, if_neg (by decide)] at this
      exact this
    · have h0 := hn rfl
      rw [if_pos rfl, if_pos rfl, if_pos rfl, if_pos (by omega), carrelref15_Number.j3]
      have := rnum_l0 (s.extract 1 s.size) b hb true (by omega) _ 0 k 0 rfl (by omega) (by omega)
      rw [ref_num, if_pos rfl] at this
      exact this
  rw [carrelref15_Number.j1]
  by_cases h0 : s.size = 0
  · rw [if_pos (nil_iff.2 h0), show decide (0 < s.size ∧ Ytkmnlbjnohjjgaa.bt s 0 = 45) = false by simp [h0]]
    exact key false (by simp)
  · rw [if_neg (fun h => h0 (nil_iff.1 h)), if_pos (by omega), show (0 : Int) = ((0 : Nat) : Int) from rfl, bt_int,
      show decide (0 < s.size ∧ Ytkmnlbjnohjjgaa.bt s 0 = 45) = (Ytkmnlbjnohjjgaa.bt s 0 == 45) by
        by_cases h : Ytkmnlbjnohjjgaa.bt s 0 = 45
        · simp [h, show 0 < s.size by omega]
        · simp [h]]
    exact key _ (fun _ => by omega)
theorem rnum_j0 (s : ByteArray) (b : Int) (hs : s.size ≤ 140737488351232) (k : Nat) (hk : s.size + 8 < k) (hq : ¬ (s.size = 3 ∧ Ytkmnlbjnohjjgaa.bt s 0 = 39 ∧ Ytkmnlbjnohjjgaa.bt s 2 = 39)) :
    carrelref15_Number.j0 k s b false = some (numAll s b) := by
  obtain ⟨k, rfl⟩ : ∃ j, k = j + 1 := ⟨k - 1, by omega⟩
  have hb36 : baseOf b ≤ 36 := by unfold baseOf; split <;> omega
  have he : 0 < s.size → (s.extract 1 s.size).size = s.size - 1 := fun h => by rw [ByteArray.size_extract]; omega
  rw [carrelref15_Number.j0, if_neg (by decide), rbase_f, Option.bind_some, numAll, if_neg hq]
  by_cases h0 : s.size = 0
  · have hm : markAt s = 0 := by unfold markAt; rw [if_neg (by omega)]
    rw [if_pos (nil_iff.2 h0), hm]
    simp only [show ¬ (0 : Int) < 0 by omega, if_false]
    exact rnum_j1 s _ hb36 hs k (by omega)
  · have hp : 0 < s.size := by omega
    have he' := he hp
    have hm : markAt s = markOf (Ytkmnlbjnohjjgaa.bt s 0) := by unfold markAt; rw [if_pos hp]
    rw [if_neg (fun h => h0 (nil_iff.1 h)), if_pos (by omega), show (0 : Int) = ((0 : Nat) : Int) from rfl, bt_int, hm]
    unfold markOf
    generalize Ytkmnlbjnohjjgaa.bt s 0 = c
    by_cases h1 : c = 35
    · simp only [h1, if_true, show ((0 : Nat) : Int) < 10 by decide]
      rw [if_pos (by omega)]
      exact rnum_j1 _ _ (by omega) (by omega) k (by omega)
    · by_cases h2 : c = 36
      · simp only [h2, if_true, if_false, show ¬ (36 : Int) = 35 by decide, show ((0 : Nat) : Int) < 16 by decide]
        rw [if_pos (by omega)]
        exact rnum_j1 _ _ (by omega) (by omega) k (by omega)
      · by_cases h3 : c = 37
        · simp only [h3, if_true, if_false, show ¬ (37 : Int) = 35 by decide, show ¬ (37 : Int) = 36 by decide, show ((0 : Nat) : Int) < 2 by decide]
          rw [if_pos (by omega)]
          exact rnum_j1 _ _ (by omega) (by omega) k (by omega)
        · simp only [h1, h2, h3, if_false, show ¬ ((0 : Nat) : Int) < 0 by decide]
          exact rnum_j1 s _ hb36 hs k (by omega)
theorem rnum_f (s : ByteArray) (b : Int) (hs : s.size ≤ 140737488351232) (k : Nat) (hk : s.size + 8 < k) : carrelref15_Number.f k s b = some (numAll s b) := by
  obtain ⟨k, rfl⟩ : ∃ j, k = j + 1 := ⟨k - 1, by omega⟩
  rw [carrelref15_Number.f, show (0 : Int) = ((0 : Nat) : Int) from rfl, show (2 : Int) = ((2 : Nat) : Int) from rfl, bt_int, bt_int]
  by_cases h3 : s.size = 3
  · rw [if_pos (by omega), if_pos (by omega)]
    by_cases h0 : Ytkmnlbjnohjjgaa.bt s 0 = 39
    · rw [if_pos h0, if_pos (by omega)]
      by_cases h2 : Ytkmnlbjnohjjgaa.bt s 2 = 39
      · have hb1 := bt_range s 1
        rw [show (Ytkmnlbjnohjjgaa.bt s 2 == 39) = true by simpa using h2, carrelref15_Number.j0, if_pos rfl, if_pos (by omega), show (1 : Int) = ((1 : Nat) : Int) from rfl, bt_int, wrap64_of (by omega) (by omega), numAll, if_pos ⟨h3, h0, h2⟩]
      · rw [show (Ytkmnlbjnohjjgaa.bt s 2 == 39) = false by simpa using h2]
        exact rnum_j0 s b hs _ hk (fun h => h2 h.2.2)
    · rw [if_neg h0]
      exact rnum_j0 s b hs _ hk (fun h => h0 h.2.1)
  · rw [if_neg (by omega)]
    exact rnum_j0 s b hs _ hk (fun h => h3 h.1)
end Go.Proofs.Ytkmnlbjnohjjgaa
