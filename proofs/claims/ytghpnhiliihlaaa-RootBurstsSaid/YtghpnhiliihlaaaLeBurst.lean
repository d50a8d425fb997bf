/-
  The check sum and bursts: of two texts that differ in at most four bytes side by side the sums differ. Plain.
-/
import Derived.Test.YtghpnhiliihlaaaLeCrc
namespace Go.Proofs.Ytghpnhiliihlaaa
set_option linter.unusedVariables false
set_option linter.unusedSimpArgs false

theorem xor_zero_eq {a b : Nat} (h : a ^^^ b = 0) : a = b := by
  have := congrArg (· ^^^ b) h
  simpa [Nat.xor_assoc] using this
theorem crcBit_xor (a b : Nat) : crcBit (a ^^^ b) = crcBit a ^^^ crcBit b := by
  have hd : (a ^^^ b) / 2 = a / 2 ^^^ b / 2 := by
    have := Nat.shiftRight_xor_distrib (a := a) (b := b) (i := 1)
    simpa [Nat.shiftRight_succ] using this
  have hm : (a ^^^ b) % 2 = (a % 2 + b % 2) % 2 := by
    have h1 : (a ^^^ b) % 2 = a % 2 ^^^ b % 2 := by
      have := Nat.xor_mod_two_pow (a := a) (b := b) (n := 1)
      simpa using this
    rw [h1]
    rcases Nat.mod_two_eq_zero_or_one a with h | h <;> rcases Nat.mod_two_eq_zero_or_one b with h' | h' <;> rw [h, h'] <;> rfl
  unfold crcBit
  rw [hd, hm]
  rcases Nat.mod_two_eq_zero_or_one a with h | h <;> rcases Nat.mod_two_eq_zero_or_one b with h' | h' <;> simp only [h, h']
  · simp
  · simp [Nat.xor_assoc]
  · simp only [Nat.add_zero, if_true, if_neg (show ¬ ((0 : Nat) = 1) by decide)]
    rw [Nat.xor_assoc, Nat.xor_comm (b / 2), Nat.xor_assoc]
  · simp only [if_true, if_neg (show ¬ (((1 + 1) % 2 : Nat) = 1) by decide)]
    rw [Nat.xor_assoc, Nat.xor_comm 3988292384, Nat.xor_assoc, Nat.xor_self, Nat.xor_zero]
theorem crcBits_xor (a b : Nat) : ∀ k, crcBits (a ^^^ b) k = crcBits a k ^^^ crcBits b k
  | 0 => rfl
  | k + 1 => by rw [crcBits, crcBits_xor a b k, crcBit_xor]; rfl
theorem crcBits_add (s j : Nat) : ∀ k, crcBits (crcBits s j) k = crcBits s (j + k)
  | 0 => rfl
  | k + 1 => by rw [crcBits, crcBits_add s j k]; rfl
theorem crcBits_up (v : Nat) : ∀ k, crcBits (v * 2 ^ k) k = v
  | 0 => by simp [crcBits]
  | k + 1 => by
    rw [crcBits, show v * 2 ^ (k + 1) = (v * 2) * 2 ^ k by rw [Nat.pow_succ, Nat.mul_assoc, Nat.mul_comm 2], crcBits_up (v * 2) k, crcBit_even (by omega)]
    omega
theorem crcBit_zero {s : Nat} (h : s < 4294967296) (h0 : crcBit s = 0) : s = 0 := by
  unfold crcBit at h0
  split at h0
  · have := xor_zero_eq h0
    omega
  · omega
theorem crcBits_zero {s : Nat} (h : s < 4294967296) : ∀ k, crcBits s k = 0 → s = 0
  | 0, h0 => h0
  | k + 1, h0 => crcBits_zero h k (crcBit_zero (crcBits_lt h k) h0)
theorem crcTo_step (bs cs : List Int) (k : Nat) : crcTo bs (k + 1) ^^^ crcTo cs (k + 1) = crcBits ((crcTo bs k ^^^ crcTo cs k) ^^^ ((bs[k]?.getD 0).toNat ^^^ (cs[k]?.getD 0).toNat)) 8 := by
  rw [crcTo, crcTo, crcByte, crcByte, ← crcBits_xor]
  congr 1
  rw [Nat.xor_assoc, Nat.xor_assoc, ← Nat.xor_assoc (crcTo cs k), ← Nat.xor_assoc (bs[k]?.getD 0).toNat, Nat.xor_comm (crcTo cs k)]
theorem crcTo_same {bs cs : List Int} {k : Nat} (h : ∀ i, i < k → bs[i]?.getD 0 = cs[i]?.getD 0) : ∀ i, i ≤ k → crcTo bs i = crcTo cs i
  | 0, _ => rfl
  | i + 1, hi => by rw [crcTo, crcTo, crcTo_same h i (by omega), h i (by omega)]
/-- Inside the window. -/
theorem crc_in {bs cs : List Int} (hb : ∀ x ∈ bs, 0 ≤ x ∧ x < 256) (hc : ∀ x ∈ cs, 0 ≤ x ∧ x < 256) (k : Nat) (h0 : crcTo bs k = crcTo cs k) :
    ∀ j, ∃ E, E < 2 ^ (8 * j) ∧ crcTo bs (k + j) ^^^ crcTo cs (k + j) = crcBits E (8 * j) ∧ (E = 0 → ∀ i, i < j → bs[k + i]?.getD 0 = cs[k + i]?.getD 0)
  | 0 => ⟨0, by simp, by rw [Nat.add_zero, h0, Nat.xor_self]; rfl, fun _ i hi => by omega⟩
  | j + 1 => by
    obtain ⟨E, hE, he, hz⟩ := crc_in hb hc k h0 j
    have rb : 0 ≤ bs[k + j]?.getD 0 ∧ bs[k + j]?.getD 0 < 256 := by
      cases hx : bs[k + j]? with
      | none => simp
      | some x => exact hb x (List.mem_of_getElem? hx)
    have rc : 0 ≤ cs[k + j]?.getD 0 ∧ cs[k + j]?.getD 0 < 256 := by
      cases hx : cs[k + j]? with
      | none => simp
      | some x => exact hc x (List.mem_of_getElem? hx)
    have hs := crcTo_step bs cs (k + j)
    generalize hxe : bs[k + j]?.getD 0 = x at *
    generalize hye : cs[k + j]?.getD 0 = y at *
    have hlt : x.toNat ^^^ y.toNat < 2 ^ 8 := Nat.xor_lt_two_pow (by omega) (by omega)
    refine ⟨E ^^^ (x.toNat ^^^ y.toNat) * 2 ^ (8 * j), ?_, ?_, ?_⟩
    · refine Nat.xor_lt_two_pow (Nat.lt_of_lt_of_le hE (Nat.pow_le_pow_right (by decide) (by omega))) ?_
      rw [show 8 * (j + 1) = 8 + 8 * j by omega, Nat.pow_add]
      exact Nat.mul_lt_mul_of_pos_right hlt (Nat.two_pow_pos _)
    · rw [← Nat.add_assoc, hs, he, ← crcBits_up (x.toNat ^^^ y.toNat) (8 * j), ← crcBits_xor, crcBits_add, crcBits_up]
      rfl
    · intro h i hi
      have h1 := xor_zero_eq h
      have h2 : x.toNat ^^^ y.toNat = 0 := by
        rcases Nat.eq_zero_or_pos (x.toNat ^^^ y.toNat) with h3 | h3
        · exact h3
        · have : 1 * 2 ^ (8 * j) ≤ (x.toNat ^^^ y.toNat) * 2 ^ (8 * j) := Nat.mul_le_mul_right _ h3
          omega
      rcases Nat.lt_or_ge i j with h4 | h4
      · exact hz (by rw [h1, h2, Nat.zero_mul]) i h4
      · obtain rfl : i = j := by omega
        have := xor_zero_eq h2
        rw [hxe, hye]
        omega
/-- Behind it. -/
theorem crc_out {bs cs : List Int} (k : Nat) (h : ∀ i, k ≤ i → bs[i]?.getD 0 = cs[i]?.getD 0) : ∀ j, crcTo bs (k + j) ^^^ crcTo cs (k + j) = crcBits (crcTo bs k ^^^ crcTo cs k) (8 * j)
  | 0 => rfl
  | j + 1 => by
    rw [← Nat.add_assoc, crcTo_step, h (k + j) (by omega), Nat.xor_self, Nat.xor_zero, crc_out k h j, crcBits_add]
    rfl
theorem crc_burst {bs cs : List Int} (hb : ∀ x ∈ bs, 0 ≤ x ∧ x < 256) (hc : ∀ x ∈ cs, 0 ≤ x ∧ x < 256) (n k m : Nat) (hm : m ≤ 4) (hn : k + m ≤ n)
    (h : ∀ i, i < k ∨ k + m ≤ i → bs[i]?.getD 0 = cs[i]?.getD 0) (he : crcTo bs n = crcTo cs n) : ∀ i : Nat, bs[i]?.getD 0 = cs[i]?.getD 0 := by
  have h0 := crcTo_same (bs := bs) (cs := cs) (k := k) (fun i hi => h i (.inl hi)) k (Nat.le_refl _)
  obtain ⟨E, hE, hx, hz⟩ := crc_in hb hc k h0 m
  have ho := crc_out (bs := bs) (cs := cs) (k + m) (fun i hi => h i (.inr hi)) (n - (k + m))
  rw [show k + m + (n - (k + m)) = n by omega, he, Nat.xor_self, hx, crcBits_add] at ho
  have hlt : E < 4294967296 := Nat.lt_of_lt_of_le hE (Nat.pow_le_pow_right (n := 2) (by decide) (show 8 * m ≤ 32 by omega))
  have hE0 := crcBits_zero hlt _ ho.symm
  intro i
  rcases Nat.lt_or_ge i k with h1 | h1
  · exact h i (.inl h1)
  · rcases Nat.lt_or_ge i (k + m) with h2 | h2
    · have := hz hE0 (i - k) (by omega)
      rwa [show k + (i - k) = i by omega] at this
    · exact h i (.inr h2)
theorem same_of_get {bs cs : List Int} (hl : bs.length = cs.length) (h : ∀ i : Nat, bs[i]?.getD 0 = cs[i]?.getD 0) : bs = cs := by
  apply List.ext_getElem hl
  intro i h1 h2
  have := h i
  rwa [List.getElem?_eq_getElem h1, List.getElem?_eq_getElem h2] at this
theorem sum_ne {u v : Nat} (h : 4294967295 ^^^ u = 4294967295 ^^^ v) : u = v := by
  have := congrArg (4294967295 ^^^ ·) h
  simpa [← Nat.xor_assoc] using this
end Go.Proofs.Ytghpnhiliihlaaa
