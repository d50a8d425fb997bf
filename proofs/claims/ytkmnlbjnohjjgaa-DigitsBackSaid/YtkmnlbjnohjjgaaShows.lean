/-
  ShowU and Show, plain: both sides tell the number's digits.
-/
import Derived.Test.YtkmnlbjnohjjgaaDigPlain
import Derived.Test.YtkmnlbjnohjjgaaPDigitsShowsx1
namespace Go.Proofs.Ytkmnlbjnohjjgaa
open Go.RowKit
set_option linter.unusedVariables false
set_option linter.unusedSimpArgs false

namespace PDigitsShowsShow
open PDigitsShows
theorem tab_at : ∀ d : Nat, d < 36 → Go.Proofs.YtkmnlbjnohjjgaaW.PrintWords.bt (⟨#[48, 49, 50, 51, 52, 53, 54, 55, 56, 57, 65, 66, 67, 68, 69, 70, 71, 72, 73, 74, 75, 76, 77, 78, 79, 80, 81, 82, 83, 84, 85, 86, 87, 88, 89, 90]⟩ : ByteArray) (d : Int) = digC d := by decide +kernel
theorem u64_nat {z : Nat} (h : z < 18446744073709551616) : IntKind.u64.wrap (z : Int) = z := by rw [IntKind.wrap_u64]; omega
theorem tdiv_nat (z b : Nat) : Int.tdiv (z : Int) (b : Int) = ((z / b : Nat) : Int) := rfl
theorem tmod_nat (z b : Nat) : Int.tmod (z : Int) (b : Int) = ((z % b : Nat) : Int) := rfl
theorem showU_l0 (b : Nat) (hb : 2 ≤ b) (hb36 : b ≤ 36) (j : Nat) : ∀ (z k : Nat) (acc : List Int), z < 2 ^ j → z < 18446744073709551616 → j + 1 < k → acc.length + j ≤ 1000 →
    digits_ShowU.l0 k (z : Int) (b : Int) acc true = some (strOfNums ((digs b (j + 1) z).map digC ++ acc)) := by
  induction j with
  | zero =>
    intro z k acc h _ hk _
    obtain ⟨k, rfl⟩ : ∃ i, k = i + 2 := ⟨k - 2, by omega⟩
    obtain rfl : z = 0 := by omega
    rw [digits_ShowU.l0, if_pos rfl, if_neg (by omega), tmod_nat, tdiv_nat, Nat.zero_mod, Nat.zero_div, if_pos (by omega), if_pos (by omega), tab_at 0 (by omega), Option.bind_some, if_pos (by simp; omega), u64_nat (by omega), digits_ShowU.l0, if_neg (by decide)]
    rw [digs, if_pos (Nat.zero_div b), Nat.zero_mod]
    rfl
  | succ j ih =>
    intro z k acc h h64 hk hlen
    obtain ⟨k, rfl⟩ : ∃ i, k = i + 1 := ⟨k - 1, by omega⟩
    have hm : z % b < b := Nat.mod_lt _ (by omega)
    have hd : z / b ≤ z := Nat.div_le_self z b
    rw [digits_ShowU.l0, if_pos rfl, if_neg (by omega), tmod_nat, tdiv_nat, if_pos (by omega), if_pos (by omega), tab_at _ (by omega), Option.bind_some, if_pos (by simp; omega), u64_nat (by omega), digs]
    by_cases h0 : z / b = 0
    · obtain ⟨k, rfl⟩ : ∃ i, k = i + 1 := ⟨k - 1, by omega⟩
      rw [if_pos h0, h0, digits_ShowU.l0, if_neg (by decide)]
      rfl
    · rw [if_neg h0, decide_eq_true (show ((z / b : Nat) : Int) > 0 from Int.ofNat_lt.2 (Nat.pos_of_ne_zero h0)), ih (z / b) k _ (div_pow hb h) (by omega) (by omega) (by simp; omega)]
      rw [List.map_append, List.append_assoc]
      rfl
theorem base_f (b : Int) : digits_Base.f b = some (baseOf b) := by
  unfold digits_Base.f baseOf
  repeat' split
  all_goals first | rfl | omega
theorem base_nat (b : Int) : ∃ n : Nat, baseOf b = n ∧ 2 ≤ n ∧ n ≤ 36 := by
  refine ⟨(baseOf b).toNat, ?_⟩
  unfold baseOf
  split <;> omega
theorem showU_f (z : Nat) (b : Int) (h64 : z < 18446744073709551616) (n : Nat) (hn : baseOf b = n) (h2 : 2 ≤ n) (h36 : n ≤ 36) : digits_ShowU.f 70 (z : Int) b = some (strOfNums ((digs n 65 z).map digC)) := by
  rw [digits_ShowU.f, base_f, Option.bind_some, hn, u64_nat (by omega)]
  have := showU_l0 n h2 h36 64 z 70 [] (by omega) h64 (by omega) (by simp)
  rw [List.append_nil] at this
  exact this
/-- A number, shown. -/
def showL (z b : Int) : List Int := (if z < 0 then [45] else []) ++ (digs (baseOf b).toNat 65 (if z < 0 then (-z).toNat else z.toNat)).map digC
theorem u64_neg {z : Int} (h : z < 0) (h0 : -9223372036854775808 ≤ z) : IntKind.u64.wrap (-(IntKind.u64.wrap z)) = ((-z).toNat : Int) := by rw [IntKind.wrap_u64, IntKind.wrap_u64]; omega
theorem u64_pos {z : Int} (h : ¬ z < 0) (h1 : z ≤ 9223372036854775807) : IntKind.u64.wrap z = (z.toNat : Int) := by rw [IntKind.wrap_u64]; omega
theorem show_len (n k z : Nat) : (strOfNums ((digs n k z).map digC)).size ≤ k := by rw [str_size, List.length_map]; exact digs_len k z
theorem show_f (z b : Int) (h0 : -9223372036854775808 ≤ z) (h1 : z ≤ 9223372036854775807) : digits_Show.f 70 z b = some (strOfNums (showL z b)) := by
  obtain ⟨n, hn, h2, h36⟩ := base_nat b
  have hnt : (baseOf b).toNat = n := by rw [hn]; rfl
  unfold digits_Show.f showL
  rw [hnt]
  by_cases hz : z < 0
  · rw [if_neg (by omega), if_pos hz, if_pos hz, u64_neg hz h0, showU_f _ b (by omega) n hn h2 h36, Option.bind_some, if_pos (by have := show_len n 65 (-z).toNat; omega), str_append]
    rfl
  · rw [if_pos (by omega), if_neg hz, if_neg hz, u64_pos hz h1, showU_f _ b (by omega) n hn h2 h36, Option.bind_some]
    rfl

theorem tab_cut : ∀ d : Nat, d < 36 → (⟨#[48, 49, 50, 51, 52, 53, 54, 55, 56, 57, 65, 66, 67, 68, 69, 70, 71, 72, 73, 74, 75, 76, 77, 78, 79, 80, 81, 82, 83, 84, 85, 86, 87, 88, 89, 90]⟩ : ByteArray).extract d (d + 1) = strOfNums [digC d] := by decide +kernel
theorem rshowU_l0 (b : Nat) (hb : 2 ≤ b) (hb36 : b ≤ 36) (j : Nat) : ∀ (z k : Nat) (acc : List Int), z < 2 ^ j → z < 18446744073709551616 → j + 1 < k → acc.length + j ≤ 1000 →
    carrelref15_ShowU.l0 k (z : Int) (b : Int) (strOfNums acc) = some (strOfNums ((digs b (j + 1) z).map digC ++ acc)) := by
  induction j with
  | zero =>
    intro z k acc h _ hk _
    obtain ⟨k, rfl⟩ : ∃ i, k = i + 1 := ⟨k - 1, by omega⟩
    obtain rfl : z = 0 := by omega
    rw [carrelref15_ShowU.l0, if_neg (by omega), tmod_nat, tdiv_nat, Nat.zero_mod, Nat.zero_div, show ((0 : Nat) : Int) + 1 = ((0 + 1 : Nat) : Int) from rfl, u64_nat (by omega), u64_nat (by omega), if_pos (by omega), if_pos (by omega), if_pos (by omega), Int.toNat_natCast, Int.toNat_natCast, tab_cut 0 (by omega), if_pos (by rw [str_size, str_size]; simp; omega), if_pos (show ((0 : Nat) : Int) = 0 from rfl), ← str_append]
    rw [digs, if_pos (Nat.zero_div b), Nat.zero_mod]
    rfl
  | succ j ih =>
    intro z k acc h h64 hk hlen
    obtain ⟨k, rfl⟩ : ∃ i, k = i + 1 := ⟨k - 1, by omega⟩
    have hm : z % b < b := Nat.mod_lt _ (by omega)
    have hd : z / b ≤ z := Nat.div_le_self z b
    rw [carrelref15_ShowU.l0, if_neg (by omega), tmod_nat, tdiv_nat, show ((z % b : Nat) : Int) + 1 = ((z % b + 1 : Nat) : Int) from rfl, u64_nat (by omega), u64_nat (by omega), if_pos (by omega), if_pos (by omega), if_pos (by omega), Int.toNat_natCast, Int.toNat_natCast, tab_cut _ (by omega), if_pos (by rw [str_size, str_size]; simp; omega), ← str_append, digs]
    by_cases h0 : z / b = 0
    · rw [if_pos (show ((z / b : Nat) : Int) = 0 by rw [h0]; rfl), if_pos h0]
      rfl
    · rw [if_neg (show ¬ ((z / b : Nat) : Int) = 0 from fun e => h0 (Int.ofNat.inj e)), if_neg h0, ih (z / b) k _ (div_pow hb h) (by omega) (by omega) (by simp; omega)]
      rw [List.map_append, List.append_assoc]
      rfl
theorem rbase_f (b : Int) : carrelref15_Base.f b = some (baseOf b) := by
  unfold carrelref15_Base.f baseOf
  repeat' split
  all_goals first | rfl | omega
theorem rshowU_f (z : Nat) (b : Int) (h64 : z < 18446744073709551616) (n : Nat) (hn : baseOf b = n) (h2 : 2 ≤ n) (h36 : n ≤ 36) : carrelref15_ShowU.f 70 (z : Int) b = some (strOfNums ((digs n 65 z).map digC)) := by
  rw [carrelref15_ShowU.f, rbase_f, Option.bind_some, hn, u64_nat (by omega)]
  have := rshowU_l0 n h2 h36 64 z 70 [] (by omega) h64 (by omega) (by simp)
  rw [List.append_nil] at this
  exact this
theorem rshow_f (z b : Int) (h0 : -9223372036854775808 ≤ z) (h1 : z ≤ 9223372036854775807) : carrelref15_Show.f 70 z b = some (strOfNums (showL z b)) := by
  obtain ⟨n, hn, h2, h36⟩ := base_nat b
  have hnt : (baseOf b).toNat = n := by rw [hn]; rfl
  unfold carrelref15_Show.f showL
  rw [hnt]
  by_cases hz : z < 0
  · rw [if_pos hz, if_pos hz, if_pos hz, u64_neg hz h0, rshowU_f _ b (by omega) n hn h2 h36, Option.bind_some, if_pos (by have := show_len n 65 (-z).toNat; omega), str_append]
    rfl
  · rw [if_neg hz, if_neg hz, if_neg hz, u64_pos hz h1, rshowU_f _ b (by omega) n hn h2 h36, Option.bind_some]
    rfl
end PDigitsShowsShow
end Go.Proofs.Ytkmnlbjnohjjgaa
