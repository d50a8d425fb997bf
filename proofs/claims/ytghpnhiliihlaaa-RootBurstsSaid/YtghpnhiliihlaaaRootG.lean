/-
  root: what is read is what is written (plain).
-/
import Derived.Test.YtghpnhiliihlaaaRootF
import Derived.Test.YtghpnhiliihlaaaLeBurst
namespace Go.Proofs.Ytghpnhiliihlaaa.Root
open Go.RowKit Go.Proofs.Ytghpnhiliihlaaa
set_option linter.unusedVariables false
set_option linter.unusedSimpArgs false

theorem leOf_byte : ∀ (l : List Int), isBytes l → ∀ i, i < l.length → byteOf (leOf l) i = l[i]?.getD 0
  | [], _, i, h => absurd h (Nat.not_lt_zero i)
  | x :: l, hl, i, h => by
    obtain ⟨hx, hl'⟩ := isBytes_cons.1 hl
    have e : leOf (x :: l) = x + 256 * leOf l := rfl
    rw [byteOf_val, e]
    cases i with
    | zero => simp; omega
    | succ i =>
      have ih := leOf_byte l hl' i (by simpa using h)
      rw [byteOf_val] at ih
      have e2 : (x + 256 * leOf l) / 256 ^ (i + 1) = leOf l / 256 ^ i := by
        rw [Int.pow_succ, Int.mul_comm (256 ^ i) 256, ← Int.ediv_ediv_of_nonneg (show (0 : Int) ≤ 256 by decide), show (x + 256 * leOf l) / 256 = leOf l by omega]
      rw [e2, ih]
      simp
theorem put_get (bs : List Int) (a : Nat) (z : Int) : ∀ m, a + m ≤ bs.length → ∀ i : Nat, (putTo bs (a : Int) z m)[i]?.getD 0 = if a ≤ i ∧ i < a + m then byteOf z (i - a) else bs[i]?.getD 0
  | 0, _, i => by rw [if_neg (by omega)]; rfl
  | m + 1, h, i => by
    rw [putTo_yes (i := a + m) (by omega) (by omega), List.getElem?_set, putTo_length]
    by_cases e : a + m = i
    · subst e
      rw [if_pos rfl, if_pos (by omega), if_pos (by omega), Option.getD_some]
      congr 1
      omega
    · rw [if_neg e, put_get bs a z m (by omega)]
      by_cases c : a ≤ i ∧ i < a + m
      · rw [if_pos c, if_pos (by omega)]
      · rw [if_neg c, if_neg (by omega)]
theorem byte_of_num {bs : List Int} (hr : isBytes bs) (a m : Nat) (hm : m ≤ 8) (h : a + m ≤ bs.length) (i : Nat) (hi : i < m) : bs[a + i]?.getD 0 = byteOf (numTo bs (a : Int) m) i := by
  have hl : ((bs.drop a).take m).length = m := by rw [List.length_take, List.length_drop]; omega
  rw [numTo_val hr a m hm h, leOf_byte _ (isBytes_take (isBytes_drop hr a) m) i (by omega), List.getElem?_take_of_lt hi, List.getElem?_drop]
theorem num_of_bytes {bs : List Int} (hr : isBytes bs) (a m : Nat) (hm : m ≤ 8) (h : a + m ≤ bs.length) (z : Int) (hz : ∀ i, i < m → bs[a + i]?.getD 0 = byteOf z i) : numTo bs (a : Int) m = z % 256 ^ m := by
  have hl : ((bs.drop a).take m).length = m := by rw [List.length_take, List.length_drop]; omega
  have e : (bs.drop a).take m = leBytes z m := by
    refine same_of_get (by rw [hl, leBytes_length]) fun i => ?_
    rcases Nat.lt_or_ge i m with hi | hi
    · rw [List.getElem?_take_of_lt hi, List.getElem?_drop, hz i hi]
      simp [leBytes, hi]
    · rw [List.getElem?_eq_none (by omega), List.getElem?_eq_none (by rw [leBytes_length]; exact hi)]
  rw [numTo_val hr a m hm h, e, leOf_leBytes]
/-! ### The bytes of a record -/
theorem puts_out (l : List S63) (b : List Int) (hb : b.length = 64) : ∀ k, k ≤ 4 → ∀ i : Nat, i < 14 ∨ 14 + 10 * k ≤ i → (putsTo l b k)[i]?.getD 0 = b[i]?.getD 0
  | 0, _, i, _ => rfl
  | k + 1, hk, i, hi => by
    rw [putsTo, put_get _ _ _ 2 (by rw [putTo_length, putsTo_length]; omega), if_neg (by omega), put_get _ _ _ 8 (by rw [putsTo_length]; omega), if_neg (by omega)]
    exact puts_out l b hb k (by omega) i (by omega)
theorem puts_gen (l : List S63) (b : List Int) (hb : b.length = 64) : ∀ k, k ≤ 4 → ∀ j i : Nat, j < k → i < 8 → (putsTo l b k)[14 + 10 * j + i]?.getD 0 = byteOf (l.getD j z63).f0 i
  | 0, _, j, i, hj, _ => absurd hj (Nat.not_lt_zero j)
  | k + 1, hk, j, i, hj, hi => by
    rw [putsTo, put_get _ _ _ 2 (by rw [putTo_length, putsTo_length]; omega), if_neg (by omega), put_get _ _ _ 8 (by rw [putsTo_length]; omega)]
    rcases Nat.lt_or_ge j k with h | h
    · rw [if_neg (by omega)]
      exact puts_gen l b hb k (by omega) j i h hi
    · obtain rfl : j = k := by omega
      rw [if_pos (by omega)]
      congr 1
      omega
theorem puts_top (l : List S63) (b : List Int) (hb : b.length = 64) : ∀ k, k ≤ 4 → ∀ j i : Nat, j < k → i < 2 → (putsTo l b k)[22 + 10 * j + i]?.getD 0 = byteOf (l.getD j z63).f1 i
  | 0, _, j, i, hj, _ => absurd hj (Nat.not_lt_zero j)
  | k + 1, hk, j, i, hj, hi => by
    rw [putsTo, put_get _ _ _ 2 (by rw [putTo_length, putsTo_length]; omega)]
    rcases Nat.lt_or_ge j k with h | h
    · rw [if_neg (by omega), put_get _ _ _ 8 (by rw [putsTo_length]; omega), if_neg (by omega)]
      exact puts_top l b hb k (by omega) j i h hi
    · obtain rfl : j = k := by omega
      rw [if_pos (by omega)]
      congr 1
      omega
theorem nots_get (n i : Nat) : (nots n)[i]?.getD 0 = 0 := by
  unfold nots
  rw [List.getElem?_replicate]
  split <;> rfl
theorem head_get (g : Int) (n i : Nat) : (headR g n)[i]?.getD 0 = if i < 4 then byteOf 1280459075 i else if i < 12 then byteOf g (i - 4) else if i < 14 then byteOf (n : Int) (i - 12) else 0 := by
  have l0 : (nots 64).length = 64 := by simp [nots]
  have e : headR g n = putTo (putTo (putTo (nots 64) ((0 : Nat) : Int) 1280459075 4) ((4 : Nat) : Int) g 8) ((12 : Nat) : Int) (n : Int) 2 := rfl
  rw [e, put_get _ 12 _ 2 (by rw [putTo_length, putTo_length]; omega), put_get _ 4 _ 8 (by rw [putTo_length]; omega), put_get _ 0 _ 4 (by omega), nots_get]
  by_cases h1 : i < 4
  · rw [if_neg (by omega), if_neg (by omega), if_pos (by omega), if_pos h1]; rfl
  · rw [if_neg h1]
    by_cases h2 : i < 12
    · rw [if_neg (by omega), if_pos (by omega), if_pos h2]
    · rw [if_neg h2]
      by_cases h3 : i < 14
      · rw [if_pos (by omega), if_pos h3]
      · rw [if_neg (by omega), if_neg (by omega), if_neg (by omega), if_neg h3]
def sumR (g : Int) (l : List S63) : Nat := 4294967295 ^^^ crcTo ((bodyR g l).take 60) 60
theorem enc_body (g : Int) (l : List S63) (i : Nat) (hi : i < 60) : (encR g l)[i]?.getD 0 = (bodyR g l)[i]?.getD 0 := by
  have e : encR g l = putTo (bodyR g l) ((60 : Nat) : Int) (sumR g l : Int) 4 := rfl
  rw [e, put_get _ 60 _ 4 (by rw [bodyR_length]; omega), if_neg (by omega)]
theorem enc_sum (g : Int) (l : List S63) (i : Nat) (hi : i < 4) : (encR g l)[60 + i]?.getD 0 = byteOf (sumR g l : Int) i := by
  have e : encR g l = putTo (bodyR g l) ((60 : Nat) : Int) (sumR g l : Int) 4 := rfl
  rw [e, put_get _ 60 _ 4 (by rw [bodyR_length]; omega), if_pos (by omega)]
  congr 1
  omega
theorem enc_take (g : Int) (l : List S63) : (encR g l).take 60 = (bodyR g l).take 60 := by
  refine same_of_get (by rw [List.length_take, List.length_take, encR_length, bodyR_length]) fun i => ?_
  rcases Nat.lt_or_ge i 60 with h | h
  · rw [List.getElem?_take_of_lt h, List.getElem?_take_of_lt h, enc_body g l i h]
  · rw [List.getElem?_eq_none (by rw [List.length_take, encR_length]; omega), List.getElem?_eq_none (by rw [List.length_take, bodyR_length]; omega)]
section
variable {g : Int} {l : List S63} (hn : l.length ≤ 4)
include hn
theorem enc_head (i : Nat) (hi : i < 14) : (encR g l)[i]?.getD 0 = (headR g l.length)[i]?.getD 0 := by
  rw [enc_body g l i (by omega)]
  exact puts_out l _ (headR_length _ _) l.length hn i (.inl hi)
theorem enc_tail (i : Nat) (h1 : 14 + 10 * l.length ≤ i) (h2 : i < 60) : (encR g l)[i]?.getD 0 = 0 := by
  rw [enc_body g l i h2]
  unfold bodyR
  rw [puts_out l _ (headR_length _ _) l.length hn i (.inr h1), head_get, if_neg (by omega), if_neg (by omega), if_neg (by omega)]
theorem enc_gen (j i : Nat) (hj : j < l.length) (hi : i < 8) : (encR g l)[14 + 10 * j + i]?.getD 0 = byteOf (l.getD j z63).f0 i := by
  rw [enc_body g l _ (by omega)]
  exact puts_gen l _ (headR_length _ _) l.length hn j i hj hi
theorem enc_top (j i : Nat) (hj : j < l.length) (hi : i < 2) : (encR g l)[22 + 10 * j + i]?.getD 0 = byteOf (l.getD j z63).f1 i := by
  rw [enc_body g l _ (by omega)]
  exact puts_top l _ (headR_length _ _) l.length hn j i hj hi
end
theorem snapsOf_get (bs : List Int) : ∀ (n j : Nat), j < n → (snapsOf bs n).getD j z63 = snapOf bs j
  | 0, j, h => absurd h (Nat.not_lt_zero j)
  | n + 1, j, h => by
    rw [snapsOf, List.getD_eq_getElem?_getD]
    rcases Nat.lt_or_ge j n with h1 | h1
    · rw [List.getElem?_append_left (by rw [snapsOf_length]; exact h1), ← List.getD_eq_getElem?_getD]
      exact snapsOf_get bs n j h1
    · obtain rfl : j = n := by omega
      have := List.getElem?_concat_length (l := snapsOf bs j) (a := snapOf bs j)
      rw [snapsOf_length] at this
      rw [this]
      rfl
theorem byteOf_zero (i : Nat) : byteOf 0 i = 0 := by rw [byteOf_val]; simp
theorem sum_lt {bs : List Int} (hr : isBytes bs) : (4294967295 ^^^ crcTo (bs.take 60) 60) < 4294967296 := crc_lt hr
theorem many_cast {bs : List Int} (hr : isBytes bs) (h : bs.length = 64) : numTo bs 12 2 = (manyOf bs : Int) ∧ manyOf bs < 65536 := by
  have hm0 := num_range hr 12 2 (by omega) (by omega)
  have h1 : numTo bs ((12 : Nat) : Int) 2 = (manyOf bs : Int) := (Int.toNat_of_nonneg hm0.1).symm
  have h2 : numTo bs ((12 : Nat) : Int) 2 < 65536 := hm0.2
  change numTo bs 12 2 = _ at h1
  change numTo bs 12 2 < _ at h2
  exact ⟨h1, by omega⟩
theorem rdec_of_rec {bs : List Int} (hr : isBytes bs) (h : recOk bs) : rdecOk bs := by
  have hlen := h.len
  have hn := h.many
  have hsl := snapsOf_length bs (manyOf bs)
  have hmc := many_cast hr hlen
  have key : ∀ i, i < 60 → bs[i]?.getD 0 = (encR (genOf bs) (snapsOf bs (manyOf bs)))[i]?.getD 0 := by
    intro i hi
    rcases Nat.lt_or_ge i 14 with h1 | h1
    · rw [enc_head (by rw [hsl]; exact hn) i h1, head_get, hsl]
      by_cases c1 : i < 4
      · rw [if_pos c1]
        have := byte_of_num hr 0 4 (by omega) (by omega) i c1
        rw [Nat.zero_add] at this
        rw [this]
        exact congrArg (fun z => byteOf z i) h.magic
      rw [if_neg c1]
      by_cases c2 : i < 12
      · rw [if_pos c2]
        have := byte_of_num hr 4 8 (by omega) (by omega) (i - 4) (by omega)
        rw [show 4 + (i - 4) = i by omega] at this
        exact this
      rw [if_neg c2, if_pos h1]
      have := byte_of_num hr 12 2 (by omega) (by omega) (i - 12) (by omega)
      rw [show 12 + (i - 12) = i by omega] at this
      rw [this, ← hmc.1]
      rfl
    · rcases Nat.lt_or_ge i (14 + 10 * manyOf bs) with h2 | h2
      · obtain ⟨j, r, hj, hr10, rfl⟩ : ∃ j r, j < manyOf bs ∧ r < 10 ∧ i = 14 + 10 * j + r := ⟨(i - 14) / 10, (i - 14) % 10, by omega, by omega, by omega⟩
        rcases Nat.lt_or_ge r 8 with h3 | h3
        · rw [enc_gen (by rw [hsl]; exact hn) j r (by rw [hsl]; exact hj) h3, snapsOf_get bs _ j hj, byte_of_num hr (14 + 10 * j) 8 (by omega) (by omega) r h3]
          show _ = byteOf (numTo bs (14 + 10 * (j : Int)) 8) r
          rw [show ((14 + 10 * j : Nat) : Int) = 14 + 10 * (j : Int) by omega]
        · obtain ⟨q, hq, rfl⟩ : ∃ q, q < 2 ∧ r = 8 + q := ⟨r - 8, by omega, by omega⟩
          rw [show 14 + 10 * j + (8 + q) = 22 + 10 * j + q by omega, enc_top (by rw [hsl]; exact hn) j q (by rw [hsl]; exact hj) hq, snapsOf_get bs _ j hj, byte_of_num hr (22 + 10 * j) 2 (by omega) (by omega) q hq]
          show _ = byteOf (numTo bs (22 + 10 * (j : Int)) 2) q
          rw [show ((22 + 10 * j : Nat) : Int) = 22 + 10 * (j : Int) by omega]
      · rw [enc_tail (by rw [hsl]; exact hn) i (by rw [hsl]; exact h2) hi]
        have := byte_of_num hr i 1 (by omega) (by omega) 0 (by omega)
        rw [h.tail i h2 hi, byteOf_zero, Nat.add_zero] at this
        exact this
  have htake : bs.take 60 = (bodyR (genOf bs) (snapsOf bs (manyOf bs))).take 60 := by
    rw [← enc_take]
    refine same_of_get (by rw [List.length_take, List.length_take, encR_length, hlen]) fun i => ?_
    rcases Nat.lt_or_ge i 60 with h1 | h1
    · rw [List.getElem?_take_of_lt h1, List.getElem?_take_of_lt h1, key i h1]
    · rw [List.getElem?_eq_none (by rw [List.length_take, hlen]; omega), List.getElem?_eq_none (by rw [List.length_take, encR_length]; omega)]
  refine ⟨hlen, hn, h.ok, same_of_get (by rw [hlen, encR_length]) fun i => ?_⟩
  rcases Nat.lt_or_ge i 60 with h1 | h1
  · exact key i h1
  · rcases Nat.lt_or_ge i 64 with h2 | h2
    · obtain ⟨r, hr4, rfl⟩ : ∃ r, r < 4 ∧ i = 60 + r := ⟨i - 60, by omega, by omega⟩
      rw [enc_sum _ _ r hr4, byte_of_num hr 60 4 (by omega) (by omega) r hr4]
      have := h.sum
      rw [htake] at this
      exact congrArg (fun z => byteOf z r) this
    · rw [List.getElem?_eq_none (by omega), List.getElem?_eq_none (by rw [encR_length]; exact h2)]
theorem byte_mod {z : Int} {m : Nat} (h0 : 0 ≤ z) (h1 : z < 256 ^ m) : z % 256 ^ m = z := Int.emod_eq_of_lt h0 h1
theorem rec_of_rdec {bs : List Int} (hr : isBytes bs) (h : rdecOk bs) : recOk bs := by
  have hlen := h.len
  have hn := h.many
  have hsl := snapsOf_length bs (manyOf bs)
  have hs := h.same
  have key : ∀ i : Nat, bs[i]?.getD 0 = (encR (genOf bs) (snapsOf bs (manyOf bs)))[i]?.getD 0 := fun i => congrArg (fun b : List Int => b[i]?.getD 0) hs
  refine ⟨hlen, ?_, hn, fun i h1 h2 => ?_, ?_, h.ok⟩
  · have := num_of_bytes hr 0 4 (by omega) (by omega) 1280459075 (fun i hi => by
      rw [Nat.zero_add, key i, enc_head (by rw [hsl]; exact hn) i (by omega), head_get, if_pos hi])
    exact this
  · have := num_of_bytes hr i 1 (by omega) (by omega) 0 (fun j hj => by
      obtain rfl : j = 0 := by omega
      rw [Nat.add_zero, key i, enc_tail (by rw [hsl]; exact hn) i (by rw [hsl]; exact h1) h2, byteOf_zero])
    rw [this]; rfl
  · have htake : bs.take 60 = (bodyR (genOf bs) (snapsOf bs (manyOf bs))).take 60 := by
      rw [← enc_take]; exact congrArg (fun b : List Int => b.take 60) hs
    have := num_of_bytes hr 60 4 (by omega) (by omega) (sumR (genOf bs) (snapsOf bs (manyOf bs)) : Int) (fun i hi => by rw [key, enc_sum _ _ i hi])
    have hlt := crc_lt (bodyR_range (genOf bs) (snapsOf bs (manyOf bs)))
    rw [htake]
    rw [byte_mod (by omega) (by have : (256 : Int) ^ 4 = 4294967296 := rfl; unfold sumR; omega)] at this
    exact this
theorem rec_iff {bs : List Int} (hr : isBytes bs) : recOk bs ↔ rdecOk bs := ⟨rdec_of_rec hr, rec_of_rdec hr⟩
/-- What is written is read again. -/
theorem dec_enc (g : Int) (l : List S63) (hg0 : 0 ≤ g) (hg1 : g < 18446744073709551616) (hn : l.length ≤ 4) (hf : ∀ j, j < l.length → 0 ≤ (l.getD j z63).f0 ∧ (l.getD j z63).f0 < 18446744073709551616 ∧ 0 ≤ (l.getD j z63).f1 ∧ (l.getD j z63).f1 < 2000) :
    genOf (encR g l) = g ∧ manyOf (encR g l) = l.length ∧ snapsOf (encR g l) l.length = l := by
  have hr : isBytes (encR g l) := encR_range g l
  have hlen := encR_length g l
  have h1 : genOf (encR g l) = g := by
    have := num_of_bytes hr 4 8 (by omega) (by omega) g (fun i hi => by rw [enc_head hn (4 + i) (by omega), head_get, if_neg (by omega), if_pos (by omega), Nat.add_sub_cancel_left])
    rw [byte_mod hg0 (by have : (256 : Int) ^ 8 = 18446744073709551616 := rfl; omega)] at this
    exact this
  have h2 : manyOf (encR g l) = l.length := by
    have := num_of_bytes hr 12 2 (by omega) (by omega) (l.length : Int) (fun i hi => by rw [enc_head hn (12 + i) (by omega), head_get, if_neg (by omega), if_neg (by omega), if_pos (by omega), Nat.add_sub_cancel_left])
    rw [byte_mod (by omega) (by have : (256 : Int) ^ 2 = 65536 := rfl; omega)] at this
    unfold manyOf
    change numTo (encR g l) 12 2 = _ at this
    rw [this, Int.toNat_natCast]
  refine ⟨h1, h2, ?_⟩
  apply List.ext_getElem?
  intro j
  rcases Nat.lt_or_ge j l.length with hj | hj
  · obtain ⟨a1, a2, a3, a4⟩ := hf j hj
    have e := snapsOf_get (encR g l) l.length j hj
    rw [List.getD_eq_getElem?_getD, List.getElem?_eq_getElem (by rw [snapsOf_length]; exact hj), Option.getD_some] at e
    rw [List.getElem?_eq_getElem (by rw [snapsOf_length]; exact hj), List.getElem?_eq_getElem hj, e]
    have el : l.getD j z63 = l[j] := by rw [List.getD_eq_getElem?_getD, List.getElem?_eq_getElem hj]; rfl
    have b1 : numTo (encR g l) (14 + 10 * (j : Int)) 8 = (l.getD j z63).f0 := by
      have := num_of_bytes hr (14 + 10 * j) 8 (by omega) (by omega) (l.getD j z63).f0 (fun i hi => enc_gen hn j i hj hi)
      rw [byte_mod a1 (by have : (256 : Int) ^ 8 = 18446744073709551616 := rfl; omega), show ((14 + 10 * j : Nat) : Int) = 14 + 10 * (j : Int) by omega] at this
      exact this
    have b2 : numTo (encR g l) (22 + 10 * (j : Int)) 2 = (l.getD j z63).f1 := by
      have := num_of_bytes hr (22 + 10 * j) 2 (by omega) (by omega) (l.getD j z63).f1 (fun i hi => enc_top hn j i hj hi)
      rw [byte_mod a3 (by have : (256 : Int) ^ 2 = 65536 := rfl; omega), show ((22 + 10 * j : Nat) : Int) = 22 + 10 * (j : Int) by omega] at this
      exact this
    unfold snapOf
    rw [b1, b2, el]
  · rw [List.getElem?_eq_none (by rw [snapsOf_length]; exact hj), List.getElem?_eq_none hj]
end Go.Proofs.Ytghpnhiliihlaaa.Root
