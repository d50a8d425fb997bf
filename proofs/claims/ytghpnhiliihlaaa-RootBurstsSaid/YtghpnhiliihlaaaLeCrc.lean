/-
  le.Crc and its reference: both tell the same check sum, for every text.
-/
import Derived.Test.YtghpnhiliihlaaaLe
namespace Go.Proofs.Ytghpnhiliihlaaa
set_option linter.unusedVariables false
set_option linter.unusedSimpArgs false
open Go.RowKit

/-- One bit of the check sum, one byte, all bytes. -/
def crcBit (s : Nat) : Nat := if s % 2 = 1 then (s / 2) ^^^ 3988292384 else s / 2
def crcBits (s : Nat) : Nat → Nat
  | 0 => s
  | k + 1 => crcBit (crcBits s k)
def crcByte (s : Nat) (b : Int) : Nat := crcBits (s ^^^ b.toNat) 8
def crcTo (bs : List Int) : Nat → Nat
  | 0 => 4294967295
  | k + 1 => crcByte (crcTo bs k) (bs[k]?.getD 0)
theorem crcBit_lt {s : Nat} (h : s < 4294967296) : crcBit s < 4294967296 := by
  unfold crcBit
  split
  · exact Nat.xor_lt_two_pow (n := 32) (by omega) (by omega)
  · omega
theorem crcBits_lt {s : Nat} (h : s < 4294967296) : ∀ k, crcBits s k < 4294967296
  | 0 => h
  | k + 1 => crcBit_lt (crcBits_lt h k)
theorem crcIn_lt {s : Nat} {b : Int} (h : s < 4294967296) (h1 : b < 256) : s ^^^ b.toNat < 4294967296 := Nat.xor_lt_two_pow (n := 32) (by omega) (by omega)
theorem crcTo_lt {bs : List Int} (hb : ∀ x ∈ bs, 0 ≤ x ∧ x < 256) : ∀ k, crcTo bs k < 4294967296
  | 0 => by simp [crcTo]
  | k + 1 => crcBits_lt (crcIn_lt (crcTo_lt hb k) (by
      cases hx : bs[k]? with
      | none => simp
      | some x => exact (hb x (List.mem_of_getElem? hx)).2)) 8
theorem crcBits_succ (t j : Nat) : crcBits t (j + 1) = crcBit (crcBits t j) := rfl
theorem crcBit_odd {u : Nat} (h : u % 2 = 1) : crcBit u = (u / 2) ^^^ 3988292384 := if_pos h
theorem crcBit_even {u : Nat} (h : u % 2 = 0) : crcBit u = u / 2 := if_neg (by omega)
theorem and1_odd {u : Nat} (hu : u < 4294967296) (h : u % 2 = 1) : bits BinOp.and IntKind.u32 (u : Int) 1 = 1 := by
  have := u32_and_nat u 1 hu (by decide)
  rw [show ((1 : Nat) : Int) = 1 from rfl] at this
  rw [this, Nat.and_one_is_mod, h]; rfl
theorem and1_even {u : Nat} (hu : u < 4294967296) (h : u % 2 = 0) : bits BinOp.and IntKind.u32 (u : Int) 1 = 0 := by
  have := u32_and_nat u 1 hu (by decide)
  rw [show ((1 : Nat) : Int) = 1 from rfl] at this
  rw [this, Nat.and_one_is_mod, h]; rfl
theorem xor32 {u v : Nat} (hu : u < 4294967296) (hv : v < 4294967296) : bits BinOp.xor IntKind.u32 (u : Int) (v : Int) = ((u ^^^ v : Nat) : Int) := u32_xor_nat u v hu hv
theorem half_cast (u : Nat) : (u : Int) / 2 = ((u / 2 : Nat) : Int) := by omega
theorem poly_even : bits BinOp.and IntKind.u32 3988292384 0 = 0 := by decide +kernel
theorem poly_odd : bits BinOp.and IntKind.u32 3988292384 4294967295 = 3988292384 := by decide +kernel
theorem step_even {u : Nat} (hu : u < 4294967296) : bits BinOp.xor IntKind.u32 ((u : Int) / 2) (bits BinOp.and IntKind.u32 3988292384 0) = ((u / 2 : Nat) : Int) := by
  have h := xor32 (u := u / 2) (v := 0) (by omega) (by omega)
  rw [Nat.xor_zero] at h
  rw [poly_even, half_cast]
  exact h
theorem step_odd {u : Nat} (hu : u < 4294967296) : bits BinOp.xor IntKind.u32 ((u : Int) / 2) (bits BinOp.and IntKind.u32 3988292384 4294967295) = ((u / 2 ^^^ 3988292384 : Nat) : Int) := by
  have h := xor32 (u := u / 2) (v := 3988292384) (by omega) (by omega)
  rw [poly_odd, half_cast]
  exact h
theorem step_odd' {u : Nat} (hu : u < 4294967296) : bits BinOp.xor IntKind.u32 ((u : Int) / 2) 3988292384 = ((u / 2 ^^^ 3988292384 : Nat) : Int) := by
  have h := xor32 (u := u / 2) (v := 3988292384) (by omega) (by omega)
  rw [half_cast]
  exact h
theorem not32 {u : Nat} (hu : u < 4294967296) : bits BinOp.xor IntKind.u32 (u : Int) 4294967295 = ((4294967295 ^^^ u : Nat) : Int) := by
  have h := xor32 (u := u) (v := 4294967295) hu (by omega)
  rw [Nat.xor_comm]
  exact h
set_option maxHeartbeats 400000 in
theorem crc_any (A : Option Addr) (n c : Nat) (bs : List Int) (B : Nat) (w : World) (hbs : BytesAt w B A n bs) (hn : n ≤ 140737488351232) :
    Calls Try.prog 16 #[.slice A n c] w fun e w' => e = .returned (.int .u32 ((4294967295 ^^^ crcTo bs n : Nat) : Int)) ∧ w = w' := by
  go_enter Try.func16, Try.ntmps16
  go_wp2
  go_loop [3, 7] (fun s i => ∃ k : Nat, k ≤ n ∧ i = .int .i64 k ∧ s = .int .u32 (crcTo bs k)) (fun _ i => n - (intOf i).toNat)
  case atStart => exact ⟨0, by omega, rfl, rfl⟩
  case round =>
    obtain ⟨k, hk, rfl, rfl⟩ := hrel
    by_cases hlt : k < n
    · obtain ⟨b, off, rfl, _, hc⟩ := hbs.2.2 (by omega)
      have hci := hc k (by omega)
      have hrng := hbs.range k
      have hs := crcTo_lt hbs.2.1 k
      have Hk := Lib.hid (show crcTo bs (k + 1) = crcBits (crcTo bs k ^^^ (bs[k]?.getD 0).toNat) 8 from rfl)
      clear hc
      have Hbs := Lib.hid hbs
      clear hbs
      generalize bs[k]?.getD 0 = x at *
      generalize crcTo bs k = s at *
      obtain ⟨y, rfl⟩ := Int.eq_ofNat_of_zero_le hrng.1
      rw [Int.toNat_natCast] at Hk
      have hy : y < 4294967296 := by omega
      have hym : (y : Int) % 4294967296 = (y : Int) := by omega
      have hxor := xor32 hs hy
      have ht : s ^^^ y < 4294967296 := Nat.xor_lt_two_pow (n := 32) (by omega) (by omega)
      generalize s ^^^ y = t at *
      go_wp2
      clear hxor hym hci
      go_loop [3, 17] (fun s i => ∃ j : Nat, j ≤ 8 ∧ i = .int .i64 j ∧ s = .int .u32 (crcBits t j)) (fun _ i => 8 - (intOf i).toNat)
      case atStart => exact ⟨0, by omega, rfl, rfl⟩
      case round =>
        obtain ⟨j, hj, rfl, rfl⟩ := hrel
        have hu := crcBits_lt ht j
        have Hj := Lib.hid (crcBits_succ t j)
        by_cases hlt2 : j < 8
        · generalize crcBits t j = u at *
          rcases Nat.mod_two_eq_zero_or_one u with h | h
          · have h1 := and1_even hu h
            have Hc := Lib.hid (crcBit_even h)
            clear h
            go_wp2
            go_round
            case rel => exact ⟨j + 1, by omega, by go_num, by rw [step_even hu, Hj.out, Hc.out]⟩
            case measure => simp [intOf]; omega
          · have h1 := and1_odd hu h
            have Hc := Lib.hid (crcBit_odd h)
            clear h
            go_wp2
            go_round
            case rel => exact ⟨j + 1, by omega, by go_num, by rw [step_odd hu, Hj.out, Hc.out]⟩
            case measure => simp [intOf]; omega
        · have hj8 : j = 8 := by omega
          subst hj8
          clear hu Hj
          rw [← Hk.out]
          go_wp2
          go_round
          case rel => exact ⟨k + 1, by omega, by go_num, rfl⟩
          case measure => simp [intOf]; omega
    · have hkn : k = n := by omega
      subst hkn
      have hx := xor32 (u := 4294967295) (by omega) (crcTo_lt hbs.2.1 k)
      have hmx : IntKind.u32.max = ((4294967295 : Nat) : Int) := rfl
      have hsg : IntKind.u32.signed = false := rfl
      rw [← hmx] at hx
      clear hmx
      go_wp2
      go_ret
      exact ⟨rfl, rfl⟩
set_option maxHeartbeats 400000 in
theorem rcrc_any (A : Option Addr) (n c : Nat) (bs : List Int) (B : Nat) (w : World) (hbs : BytesAt w B A n bs) (hn : n ≤ 140737488351232) :
    Calls Try.prog 17 #[.slice A n c] w fun e w' => e = .returned (.int .u32 ((4294967295 ^^^ crcTo bs n : Nat) : Int)) ∧ w = w' := by
  go_enter Try.func17, Try.ntmps17
  go_wp2
  go_loop [3, 4] (fun s i => ∃ k : Nat, k ≤ n ∧ i = .int .i64 k ∧ s = .int .u32 (crcTo bs k)) (fun _ i => n - (intOf i).toNat)
  case atStart => exact ⟨0, by omega, rfl, rfl⟩
  case round =>
    obtain ⟨k, hk, rfl, rfl⟩ := hrel
    by_cases hlt : k < n
    · obtain ⟨b, off, rfl, _, hc⟩ := hbs.2.2 (by omega)
      have hci := hc k (by omega)
      have hrng := hbs.range k
      have hs := crcTo_lt hbs.2.1 k
      have Hk := Lib.hid (show crcTo bs (k + 1) = crcBits (crcTo bs k ^^^ (bs[k]?.getD 0).toNat) 8 from rfl)
      clear hc
      have Hbs := Lib.hid hbs
      clear hbs
      generalize bs[k]?.getD 0 = x at *
      generalize crcTo bs k = s at *
      obtain ⟨y, rfl⟩ := Int.eq_ofNat_of_zero_le hrng.1
      rw [Int.toNat_natCast] at Hk
      have hy : y < 4294967296 := by omega
      have hym : (y : Int) % 4294967296 = (y : Int) := by omega
      have hxor := xor32 hs hy
      have ht : s ^^^ y < 4294967296 := Nat.xor_lt_two_pow (n := 32) (by omega) (by omega)
      generalize s ^^^ y = t at *
      go_wp2
      clear hxor hym hci
      go_loop [3, 5] (fun s i => ∃ j : Nat, j ≤ 8 ∧ i = .int .i64 j ∧ s = .int .u32 (crcBits t j)) (fun _ i => 8 - (intOf i).toNat)
      case atStart => exact ⟨0, by omega, rfl, rfl⟩
      case round =>
        obtain ⟨j, hj, rfl, rfl⟩ := hrel
        have hu := crcBits_lt ht j
        have Hj := Lib.hid (crcBits_succ t j)
        by_cases hlt2 : j < 8
        · generalize crcBits t j = u at *
          rcases Nat.mod_two_eq_zero_or_one u with h | h
          · have h1 := and1_even hu h
            have Hc := Lib.hid (crcBit_even h)
            clear h
            go_wp2
            go_round
            case rel => exact ⟨j + 1, by omega, by go_num, by rw [half_cast, Hj.out, Hc.out]⟩
            case measure => simp [intOf]; omega
          · have h1 := and1_odd hu h
            have Hc := Lib.hid (crcBit_odd h)
            clear h
            go_wp2
            go_round
            case rel => exact ⟨j + 1, by omega, by go_num, by rw [step_odd' hu, Hj.out, Hc.out]⟩
            case measure => simp [intOf]; omega
        · have hj8 : j = 8 := by omega
          subst hj8
          clear hu Hj
          rw [← Hk.out]
          go_wp2
          go_round
          case rel => exact ⟨k + 1, by omega, by go_num, rfl⟩
          case measure => simp [intOf]; omega
    · have hkn : k = n := by omega
      subst hkn
      have hx := xor32 (u := 4294967295) (by omega) (crcTo_lt hbs.2.1 k)
      have hmx : IntKind.u32.max = ((4294967295 : Nat) : Int) := rfl
      have hsg : IntKind.u32.signed = false := rfl
      rw [← hmx] at hx
      clear hmx
      go_wp2
      go_ret
      exact ⟨rfl, rfl⟩
end Go.Proofs.Ytghpnhiliihlaaa
