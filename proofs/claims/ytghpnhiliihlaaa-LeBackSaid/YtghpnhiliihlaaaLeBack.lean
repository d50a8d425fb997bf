/-
  LeBack: the law's walk.
-/
import Derived.Test.YtghpnhiliihlaaaLeLaws
import Derived.Deep.QuietTactic
import Derived.BigQuiet
import Derived.WalkSmall
namespace Go.Proofs.Ytghpnhiliihlaaa
set_option linter.unusedVariables false
set_option linter.unusedSimpArgs false
open Go.RowKit

theorem put_get_out (bs : List Int) (k : Nat) (z : Int) (h : k + 8 ≤ bs.length) (i : Nat) (hi : i < k ∨ k + 8 ≤ i) : (putTo bs (k : Int) z 8)[i]?.getD 0 = bs[i]?.getD 0 := by
  rw [putTo_val bs k z 8 h, List.append_assoc]
  have hl : (bs.take k).length = k := by rw [List.length_take]; omega
  rcases hi with hi | hi
  · rw [List.getElem?_append_left (by omega), List.getElem?_take_of_lt hi]
  · rw [List.getElem?_append_right (by omega), hl, List.getElem?_append_right (by rw [leBytes_length]; omega), leBytes_length, List.getElem?_drop]
    congr 2; omega
theorem back_cell (bs : List Int) (hr : ∀ x ∈ bs, 0 ≤ x ∧ x < 256) (k : Nat) (z : Int) (h : k + 8 ≤ bs.length) (h0 : -9223372036854775808 ≤ z) (h1 : z ≤ 9223372036854775807) :
    wrap64 (numTo (putTo bs (k : Int) (z % 18446744073709551616) 8) (k : Int) 8) = z := by
  rw [num_put bs hr k _ 8 (by omega) h, show (256 : Int) ^ 8 = 18446744073709551616 by decide, Int.emod_emod]
  unfold wrap64
  omega
theorem wrap_next {i : Nat} (h : i < 140737488351232) : wrap64 ((i : Int) + 1) = ((i + 1 : Nat) : Int) := by rw [wrap64_of] <;> omega
set_option maxHeartbeats 1000000 in
theorem leBack_walk (W : World) (a : Option Addr) (len cap : Nat) (bs : List Int) (h : BytesAt W W.heap.size a len bs) (hlc : len ≤ cap) (hc : cap ≤ 140737488351232)
    (at_ : Int) (wa : (Lit.int .i64 at_).wf = true) (z : Int) (wz : (Lit.int .i64 z).wf = true) :
    Calls Try.prog 8 #[.slice a len cap, .int .i64 at_, .int .i64 z] W fun e W' => e = .returned (.bool true) ∧ Below W.heap.size W W' := by
  have ha := i64_wf wa
  have hz := i64_wf wz
  have hw8 : wrap64 ((len : Int) - 8) = (len : Int) - 8 := wrap64_of (by omega) (by omega)
  have hs : 2000 < len ∨ len ≤ 2000 ∧ at_ < 0 ∨ len ≤ 2000 ∧ 0 ≤ at_ ∧ (len : Int) - 8 < at_ ∨ len ≤ 2000 ∧ 0 ≤ at_ ∧ at_ + 8 ≤ len := by omega
  rcases hs with s0 | ⟨s0, s1⟩ | ⟨s0, s1, s2⟩ | ⟨s0, s1, s2⟩
  iterate 3
    · go_enter Try.func8, Try.ntmps8
      go_wp2_with fail
      refine (leAwake_any _).mono ?_
      rintro e w1 ⟨rfl, hb1⟩
      go_wp2_with fail
      go_ret
      exact ⟨rfl, hb1⟩
  obtain ⟨k, rfl⟩ := Int.eq_ofNat_of_zero_le s1
  have hla : bs.length = len := h.1
  have hcb := back_cell bs h.2.1 k z (by omega) hz.1 hz.2
  have hout := put_get_out bs k (z % 18446744073709551616) (by omega)
  have hr := putTo_range (k : Int) (z % 18446744073709551616) h.2.1 8
  have hpl := putTo_length bs k (z % 18446744073709551616) 8
  go_enter Try.func8, Try.ntmps8
  go_wp2_with fail
  refine (leAwake_any _).mono ?_
  rintro e w1 ⟨rfl, hb1⟩
  have h1 := (h.below hb1).more hb1.size
  go_wp2_with fail
  refine (putCell_any _ _ _ _ k z (by omega) (by omega) (by omega) _ h1).mono ?_
  rintro e w2 ⟨⟨A2, c2, rfl, ho2⟩, hb2⟩
  have hbA := hb1.trans (hb2.mono hb1.size)
  have h2 := (h1.below hb2).more hb2.size
  have ho := ho2.at_ hr
  clear ho2
  generalize putTo bs (k : Int) (z % 18446744073709551616) 8 = ps at hcb hout hr hpl ho
  go_wp2_with fail
  refine (cell_any _ _ _ _ k (by omega) (by omega) (by omega) _ ho).mono ?_
  rintro e w3 ⟨rfl, hb3⟩
  rw [hcb]
  have hbB := hbA.trans (hb3.mono hbA.size)
  have h3 := h2.below hb3
  have ho3 := ho.below hb3
  clear ho h2 h1 hcb hb1 hb2
  have h3s := Lib.hid hb3.size
  have hwk : wrap64 ((k : Int) + 8) = (k : Int) + 8 := wrap64_of (by omega) (by omega)
  have s0' : len ≤ 140737488351232 := Nat.le_trans s0 (by decide)
  go_wp2_with fail
  go_loopw [43] (fun v wr => ∃ i : Nat, i ≤ len ∧ v = .int .i64 i ∧ Below w3.heap.size w3 wr) (fun v _ => len - (intOf v).toNat)
  case atStart => exact ⟨0, Nat.zero_le _, rfl, Below.refl _ _⟩
  case round =>
    obtain ⟨i, hi, rfl, hb⟩ := hrel
    by_cases hlt : i < len
    · have g1 := ho3.below (hb.mono h3s.out)
      have g2 := h3.below (hb.mono h3s.out)
      have hpos : 0 < len := Nat.lt_of_le_of_lt (Nat.zero_le _) hlt
      obtain ⟨p1, o1, rfl, _, hc1⟩ := g1.2.2 hpos
      obtain ⟨p2, o2, rfl, _, hc2⟩ := g2.2.2 hpos
      have k1 := hc1 i hlt
      have k2 := hc2 i hlt
      have f2 : (i : Int) < (len : Int) := Int.ofNat_lt.2 hlt
      have f3 : (0 : Int) ≤ (i : Int) := Int.natCast_nonneg i
      have hend : wrap64 ((i : Int) + 1) = ((i + 1 : Nat) : Int) := wrap_next (Nat.lt_of_lt_of_le hlt s0')
      have hms : len - (i + 1) < len - i := Nat.sub_lt_sub_left hlt (Nat.lt_succ_self i)
      by_cases q1 : i < k
      · rw [hout i (.inl q1)] at k1
        generalize bs[i]?.getD 0 = x at k1 k2
        have f1 : (i : Int) < (k : Int) := Int.ofNat_lt.2 q1
        have f4 : decide ((i : Int) < (k : Int)) = true := decide_eq_true f1
        have f4n : decide (i < k) = true := decide_eq_true q1
        clear hc1 hc2 g1 g2 ho3 h3 h hout hz hlc hc wa wz hla hr hpl hb3 ha hw8 q1
        go_wp2_with fail
        go_quiet (fail)
        go_wp2
        go_roundw
        case rel => exact ⟨i + 1, hlt, rfl, below_drewN hb _⟩
        case measure => exact hms
      · have f1 : ¬ (i : Int) < (k : Int) := fun e => q1 (Int.ofNat_lt.1 e)
        have f4 : decide ((i : Int) < (k : Int)) = false := decide_eq_false f1
        have f4n : decide (i < k) = false := decide_eq_false q1
        by_cases q2 : k + 8 ≤ i
        · rw [hout i (.inr q2)] at k1
          generalize bs[i]?.getD 0 = x at k1 k2
          have f5 : (k : Int) + 8 ≤ (i : Int) := Int.ofNat_le.2 q2
          have f6 : decide ((k : Int) + 8 ≤ (i : Int)) = true := decide_eq_true f5
          have f6n : decide (k + 8 ≤ i) = true := decide_eq_true q2
          clear hc1 hc2 g1 g2 ho3 h3 h hout hz hlc hc wa wz hla hr hpl hb3 ha hw8 q1 q2
          go_wp2_with fail
          go_quiet (fail)
          go_wp2
          go_roundw
          case rel => exact ⟨i + 1, hlt, rfl, below_drewN hb _⟩
          case measure => exact hms
        · have f5 : ¬ (k : Int) + 8 ≤ (i : Int) := fun e => q2 (Int.ofNat_le.1 e)
          have f6 : decide ((k : Int) + 8 ≤ (i : Int)) = false := decide_eq_false f5
          have f6n : decide (k + 8 ≤ i) = false := decide_eq_false q2
          clear k1 k2 hc1 hc2 g1 g2 ho3 h3 h hout hz hlc hc wa wz hla hr hpl hb3 ha hw8 q1 q2
          go_wp2_with fail
          go_quiet (fail)
          go_wp2
          go_roundw
          case rel => exact ⟨i + 1, hlt, rfl, below_drewN hb _⟩
          case measure => exact hms
    · have hin : i = len := Nat.le_antisymm hi (Nat.le_of_not_lt hlt)
      subst hin
      go_wp2
      go_ret
      exact ⟨rfl, hbB.trans (hb.mono hbB.size)⟩

end Go.Proofs.Ytghpnhiliihlaaa
