/-
  What the numbers of some bytes are: plain laws on lists and numbers, no program in sight. No condition but that bytes are bytes.
-/
import Derived.Test.YtghpnhiliihlaaaLe
namespace Go.Proofs.Ytghpnhiliihlaaa
set_option linter.unusedVariables false
set_option linter.unusedSimpArgs false
open Go.RowKit

def leOf : List Int → Int
  | [] => 0
  | x :: r => x + 256 * leOf r
def isBytes (l : List Int) : Prop := ∀ x ∈ l, 0 ≤ x ∧ x < 256
theorem isBytes_nil : isBytes [] := by simp [isBytes]
theorem isBytes_cons {x : Int} {l : List Int} : isBytes (x :: l) ↔ (0 ≤ x ∧ x < 256) ∧ isBytes l := by simp [isBytes]
theorem isBytes_append {l r : List Int} : isBytes (l ++ r) ↔ isBytes l ∧ isBytes r := by
  simp only [isBytes, List.mem_append]
  exact ⟨fun h => ⟨fun x hx => h x (.inl hx), fun x hx => h x (.inr hx)⟩, fun h x hx => hx.elim (h.1 x) (h.2 x)⟩
theorem isBytes_take {l : List Int} (h : isBytes l) (n : Nat) : isBytes (l.take n) := fun x hx => h x (List.mem_of_mem_take hx)
theorem isBytes_drop {l : List Int} (h : isBytes l) (n : Nat) : isBytes (l.drop n) := fun x hx => h x (List.mem_of_mem_drop hx)
theorem leOf_snoc : ∀ (l : List Int) (x : Int), leOf (l ++ [x]) = leOf l + x * 256 ^ l.length
  | [], x => by simp [leOf]
  | y :: l, x => by
    simp only [List.cons_append, leOf, leOf_snoc l x, List.length_cons, Int.pow_succ]
    rw [Int.mul_add, Int.add_assoc, Int.mul_left_comm 256, Int.mul_comm 256 (256 ^ _)]
theorem leOf_append : ∀ (l r : List Int), leOf (l ++ r) = leOf l + leOf r * 256 ^ l.length
  | [], r => by simp [leOf]
  | y :: l, r => by
    simp only [List.cons_append, leOf, leOf_append l r, List.length_cons, Int.pow_succ]
    rw [Int.mul_add, Int.add_assoc, Int.mul_left_comm 256, Int.mul_comm 256 (256 ^ _)]
theorem pow256_pos (n : Nat) : (0 : Int) < 256 ^ n := Int.pow_pos (by decide)
theorem leOf_range : ∀ {l : List Int}, isBytes l → 0 ≤ leOf l ∧ leOf l < 256 ^ l.length
  | [], _ => by simp [leOf]
  | x :: l, h => by
    obtain ⟨hx, hl⟩ := isBytes_cons.1 h
    obtain ⟨h1, h2⟩ := leOf_range hl
    simp only [leOf, List.length_cons, Int.pow_succ]
    omega

theorem orByte_val {acc x : Int} {k : Nat} (hk : k < 8) (h0 : 0 ≤ acc) (h1 : acc < 256 ^ k) (hx : 0 ≤ x ∧ x < 256) : orByte acc x k = acc + x * 256 ^ k := by
  obtain ⟨a, rfl⟩ := Int.eq_ofNat_of_zero_le h0
  obtain ⟨b, rfl⟩ := Int.eq_ofNat_of_zero_le hx.1
  have e256 : (256 : Int) ^ k = ((2 ^ (8 * k) : Nat) : Int) := by
    rw [Nat.pow_mul, Int.natCast_pow]; rfl
  have e2 : (2 : Int) ^ (8 * k) = ((2 ^ (8 * k) : Nat) : Int) := by rw [Int.natCast_pow]; rfl
  have hle : 2 ^ (8 * k) ≤ 2 ^ 56 := Nat.pow_le_pow_right (by decide) (by omega)
  have ha : a < 2 ^ (8 * k) := by rw [e256] at h1; omega
  have hb : b < 256 := by omega
  have hmul : b * 2 ^ (8 * k) < 18446744073709551616 := by
    have h3 : b * 2 ^ (8 * k) ≤ 255 * 2 ^ 56 := Nat.mul_le_mul (by omega) hle
    omega
  have hw : IntKind.u64.wrap (b : Int) = (b : Int) := by
    rw [IntKind.wrap_u64]; omega
  have hw2 : IntKind.u64.wrap ((b : Int) * 2 ^ (8 * k)) = ((b * 2 ^ (8 * k) : Nat) : Int) := by
    rw [e2, ← Int.natCast_mul, IntKind.wrap_u64]; omega
  unfold orByte
  rw [hw, hw2, u64_or_nat a (b * 2 ^ (8 * k)) (by omega) hmul, e256]
  have h3 : a ||| b * 2 ^ (8 * k) = a + b * 2 ^ (8 * k) := by
    rw [Nat.or_comm, Nat.mul_comm b, ← Nat.two_pow_add_eq_or_of_lt ha, Nat.add_comm]
  rw [h3]
  rw [Int.natCast_add, Int.natCast_mul]
theorem numTo_val {bs : List Int} (hr : isBytes bs) (a : Nat) : ∀ m, m ≤ 8 → a + m ≤ bs.length → numTo bs (a : Int) m = leOf ((bs.drop a).take m)
  | 0, _, _ => by simp [numTo, leOf]
  | m + 1, hm, h => by
    have ih := numTo_val hr a m (by omega) (by omega)
    have hlt : a + m < bs.length := by omega
    have hlen : ((bs.drop a).take m).length = m := by simp; omega
    have hb : isBytes ((bs.drop a).take m) := isBytes_take (isBytes_drop hr a) m
    have hrg := leOf_range hb
    rw [hlen] at hrg
    have hx : bs[a + m]?.getD 0 = bs[a + m] := by simp [hlt]
    have ht : (bs.drop a).take (m + 1) = (bs.drop a).take m ++ [bs[a + m]] := by
      rw [List.take_succ_eq_append_getElem (by simp; omega)]
      simp
    rw [numTo_yes (i := a + m) (by omega) hlt, ih, ht, leOf_snoc, hlen, hx]
    exact orByte_val (by omega) hrg.1 hrg.2 (hr _ (List.getElem_mem _))

def leBytes (z : Int) (m : Nat) : List Int := (List.range m).map (byteOf z)
theorem leBytes_length (z : Int) (m : Nat) : (leBytes z m).length = m := by simp [leBytes]
theorem leBytes_succ (z : Int) (m : Nat) : leBytes z (m + 1) = leBytes z m ++ [byteOf z m] := by simp [leBytes, List.range_succ]
theorem leBytes_isBytes (z : Int) (m : Nat) : isBytes (leBytes z m) := by
  intro x hx
  obtain ⟨k, _, rfl⟩ := List.mem_map.1 hx
  exact byteOf_range z k
theorem byteOf_val (z : Int) (k : Nat) : byteOf z k = z / 256 ^ k % 256 := by
  unfold byteOf
  rw [IntKind.wrap_u8, show (2 : Int) ^ (8 * k) = 256 ^ k by rw [Int.pow_mul]; rfl]
theorem emod_step (z : Int) {P : Int} (hp : 0 < P) : z % P + P * (z / P % 256) = z % (P * 256) := by
  have h1 := Int.mul_ediv_add_emod z P
  have h2 := Int.mul_ediv_add_emod (z / P) 256
  have h3 : P * (256 * (z / P / 256) + z / P % 256) = P * (256 * (z / P / 256)) + P * (z / P % 256) := Int.mul_add _ _ _
  rw [h2] at h3
  have h4 : P * 256 * (z / P / 256) = P * (256 * (z / P / 256)) := Int.mul_assoc _ _ _
  have h5 : 0 ≤ z % P := Int.emod_nonneg z (by omega)
  have h6 : z % P < P := Int.emod_lt_of_pos z hp
  have h7 : 0 ≤ P * (z / P % 256) := Int.mul_nonneg (by omega) (by omega)
  have h8 : P * (z / P % 256) ≤ P * 255 := Int.mul_le_mul_of_nonneg_left (by omega) (by omega)
  exact ((Int.ediv_emod_unique (b := P * 256) (q := z / P / 256) (by omega)).2 ⟨by omega, by omega, by omega⟩).2.symm
theorem leOf_leBytes (z : Int) : ∀ m, leOf (leBytes z m) = z % 256 ^ m
  | 0 => by simp [leBytes, leOf]
  | m + 1 => by
    rw [leBytes_succ, leOf_snoc, leOf_leBytes z m, leBytes_length, byteOf_val, Int.pow_succ]
    have hp := pow256_pos m
    rw [Int.mul_comm (z / 256 ^ m % 256)]
    exact emod_step z hp
theorem putTo_val (bs : List Int) (a : Nat) (z : Int) : ∀ m, a + m ≤ bs.length → putTo bs (a : Int) z m = bs.take a ++ leBytes z m ++ bs.drop (a + m)
  | 0, h => by simp [putTo, leBytes]
  | m + 1, h => by
    have ih := putTo_val bs a z m (by omega)
    have hlt : a + m < bs.length := by omega
    rw [putTo_yes (i := a + m) (by omega) hlt, ih, leBytes_succ]
    have hd : bs.drop (a + m) = bs[a + m] :: bs.drop (a + (m + 1)) := by
      rw [List.drop_eq_getElem_cons hlt]; rfl
    have hl : (bs.take a ++ leBytes z m).length = a + m := by rw [List.length_append, leBytes_length, List.length_take]; omega
    rw [hd, List.set_append_right _ _ (by omega), hl, Nat.sub_self, List.set_cons_zero]
    simp
/-- What is laid is read again. -/
theorem num_put (bs : List Int) (hr : isBytes bs) (a : Nat) (z : Int) (m : Nat) (hm : m ≤ 8) (h : a + m ≤ bs.length) : numTo (putTo bs (a : Int) z m) (a : Int) m = z % 256 ^ m := by
  rw [numTo_val (putTo_range _ _ hr m) a m hm (by rw [putTo_length]; omega), putTo_val bs a z m h, ← leOf_leBytes]
  have hl : (bs.take a).length = a := by rw [List.length_take]; omega
  rw [List.append_assoc, List.drop_append_of_le_length (by omega), List.drop_of_length_le (by omega), List.nil_append,
    List.take_append_of_le_length (by rw [leBytes_length]; omega), List.take_of_length_le (by rw [leBytes_length]; omega)]
end Go.Proofs.Ytghpnhiliihlaaa
