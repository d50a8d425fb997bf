/-
  LeCrc, LeMix, LeNums, LeCells: the laws' walks.
-/
import Derived.Test.YtghpnhiliihlaaaLeCell
namespace Go.Proofs.Ytghpnhiliihlaaa
set_option linter.unusedVariables false
set_option linter.unusedSimpArgs false
open Go.RowKit

theorem i64_wf {a : Int} (h : (Lit.int .i64 a).wf = true) : -9223372036854775808 ≤ a ∧ a ≤ 9223372036854775807 := by
  have e1 : IntKind.i64.min = -9223372036854775808 := by decide
  have e2 : IntKind.i64.max = 9223372036854775807 := by decide
  simp [Lit.wf] at h
  omega
set_option maxHeartbeats 1000000 in
theorem leCrc_walk (W : World) (a : Option Addr) (len cap : Nat) (bs : List Int) (h : BytesAt W W.heap.size a len bs) (hlc : len ≤ cap) (hc : cap ≤ 140737488351232) :
    Calls Try.prog 3 #[.slice a len cap] W fun e W' => e = .returned (.bool true) ∧ Below W.heap.size W W' := by
  by_cases hn : len ≤ 3000
  · go_enter Try.func3, Try.ntmps3
    go_wp2_with fail
    refine (leAwake_any _).mono ?_
    rintro e w1 ⟨rfl, hb1⟩
    have h1 := h.below hb1
    go_wp2_with fail
    refine (crc_any _ _ _ _ _ _ h1 (by omega)).mono ?_
    rintro e w2 ⟨rfl, rfl⟩
    go_wp2_with fail
    refine (rcrc_any _ _ _ _ _ _ h1 (by omega)).mono ?_
    rintro e w2 ⟨rfl, rfl⟩
    go_wp2_with fail
    go_ret
    exact ⟨rfl, hb1⟩
  · go_enter Try.func3, Try.ntmps3
    go_wp2_with fail
    refine (leAwake_any _).mono ?_
    rintro e w1 ⟨rfl, hb1⟩
    go_wp2_with fail
    go_ret
    exact ⟨rfl, hb1⟩

set_option maxHeartbeats 1000000 in
theorem leMix_walk (W : World) (a : Option Addr) (len cap : Nat) (bs : List Int) (h : BytesAt W W.heap.size a len bs) (hlc : len ≤ cap) (hc : cap ≤ 140737488351232)
    (a' : Option Addr) (len' cap' : Nat) (bs' : List Int) (h' : BytesAt W W.heap.size a' len' bs') (hlc' : len' ≤ cap') (hc' : cap' ≤ 140737488351232) (cut : Int) (_ : (Lit.int .i64 cut).wf = true) (head : Bool) :
    Calls Try.prog 4 #[.slice a len cap, .slice a' len' cap', .int .i64 cut, .bool head] W fun e W' => e = .returned (.bool true) ∧ Below W.heap.size W W' := by
  by_cases hn : len + len' ≤ 3000
  · go_enter Try.func4, Try.ntmps4
    go_wp2_with fail
    refine (leAwake_any _).mono ?_
    rintro e w1 ⟨rfl, hb1⟩
    have h1 := (h.below hb1).more hb1.size
    have h1' := (h'.below hb1).more hb1.size
    have hr := mixOf_range (cutOf cut len) head h.2.1 h'.2.1
    go_wp2_with fail
    refine (mix_any _ _ _ _ _ _ _ _ cut head _ h1 h1' hlc (by omega) (by omega) (by omega)).mono ?_
    rintro e w2 ⟨⟨A2, c2, rfl, ho2⟩, hb2⟩
    have h2 := (h1.below hb2).more hb2.size
    have h2' := (h1'.below hb2).more hb2.size
    have hbA := hb1.trans (hb2.mono hb1.size)
    go_wp2_with fail
    refine (rmix_any _ _ _ _ _ _ _ _ cut head _ h2 h2' hlc (by omega) (by omega) (by omega)).mono ?_
    rintro e w3 ⟨⟨A3, c3, rfl, ho3⟩, hb3⟩
    have hbB := hbA.trans (hb3.mono hbA.size)
    have ho2' := (ho2.at_ hr).below hb3
    have ho3' := ho3.at_ hr
    go_wp2_with fail
    refine (same_any _ _ _ _ _ _ _ _ _ _ _ ho2' ho3').mono ?_
    rintro e w4 ⟨rfl, rfl⟩
    rw [decide_eq_true (rfl : mixOf bs bs' (cutOf cut len) head = _)]
    go_wp2_with fail
    go_ret
    exact ⟨rfl, hbB⟩
  · go_enter Try.func4, Try.ntmps4
    go_wp2_with fail
    refine (leAwake_any _).mono ?_
    rintro e w1 ⟨rfl, hb1⟩
    go_wp2_with fail
    go_ret
    exact ⟨rfl, hb1⟩

set_option maxHeartbeats 1000000 in
theorem leNums_walk (W : World) (a : Option Addr) (len cap : Nat) (bs : List Int) (h : BytesAt W W.heap.size a len bs) (hlc : len ≤ cap) (hc : cap ≤ 140737488351232)
    (at_ : Int) (wa : (Lit.int .i64 at_).wf = true) (size : Int) (_ : (Lit.int .i64 size).wf = true) (z : Int) (_ : (Lit.int .u64 z).wf = true) :
    Calls Try.prog 6 #[.slice a len cap, .int .i64 at_, .int .i64 size, .int .u64 z] W fun e W' => e = .returned (.bool true) ∧ Below W.heap.size W W' := by
  have ha : -9223372036854775808 ≤ at_ ∧ at_ ≤ 9223372036854775807 := i64_wf wa
  by_cases hn : len ≤ 2000
  · go_enter Try.func6, Try.ntmps6
    go_wp2_with fail
    refine (leAwake_any _).mono ?_
    rintro e w1 ⟨rfl, hb1⟩
    have h1 := (h.below hb1).more hb1.size
    have hr := putTo_range at_ z h.2.1 (rounds8 size)
    go_wp2_with fail
    refine (num_any _ _ _ _ at_ size (by omega) ha.1 ha.2 _ h1).mono ?_
    rintro e w2 ⟨rfl, hb2⟩
    have h2 := (h1.below hb2).more hb2.size
    have hbA := hb1.trans (hb2.mono hb1.size)
    go_wp2_with fail
    refine (rnum_any _ _ _ _ at_ size (by omega) ha.1 ha.2 _ h2).mono ?_
    rintro e w3 ⟨rfl, rfl⟩
    go_wp2_with fail
    refine (putNum_any _ _ _ _ at_ size z (by omega) ha.1 ha.2 _ h2).mono ?_
    rintro e w3 ⟨⟨A3, c3, rfl, ho3⟩, hb3⟩
    have h3 := (h2.below hb3).more hb3.size
    have hbB := hbA.trans (hb3.mono hbA.size)
    go_wp2_with fail
    refine (rputNum_any _ _ _ _ at_ size z (by omega) ha.1 ha.2 _ h3).mono ?_
    rintro e w4 ⟨⟨A4, c4, rfl, ho4⟩, hb4⟩
    have hbC := hbB.trans (hb4.mono hbB.size)
    have ho3' := (ho3.at_ hr).below hb4
    have ho4' := ho4.at_ hr
    go_wp2_with fail
    refine (same_any _ _ _ _ _ _ _ _ _ _ _ ho3' ho4').mono ?_
    rintro e w5 ⟨rfl, rfl⟩
    rw [decide_eq_true (rfl : putTo bs at_ z (rounds8 size) = _)]
    go_wp2_with fail
    go_ret
    exact ⟨rfl, hbC⟩
  · go_enter Try.func6, Try.ntmps6
    go_wp2_with fail
    refine (leAwake_any _).mono ?_
    rintro e w1 ⟨rfl, hb1⟩
    go_wp2_with fail
    go_ret
    exact ⟨rfl, hb1⟩

set_option maxHeartbeats 1000000 in
theorem leCells_walk (W : World) (a : Option Addr) (len cap : Nat) (bs : List Int) (h : BytesAt W W.heap.size a len bs) (hlc : len ≤ cap) (hc : cap ≤ 140737488351232)
    (at_ : Int) (wa : (Lit.int .i64 at_).wf = true) (z : Int) (_ : (Lit.int .i64 z).wf = true) :
    Calls Try.prog 7 #[.slice a len cap, .int .i64 at_, .int .i64 z] W fun e W' => e = .returned (.bool true) ∧ Below W.heap.size W W' := by
  have ha : -9223372036854775808 ≤ at_ ∧ at_ ≤ 9223372036854775807 := i64_wf wa
  by_cases hn : len ≤ 2000
  · go_enter Try.func7, Try.ntmps7
    go_wp2_with fail
    refine (leAwake_any _).mono ?_
    rintro e w1 ⟨rfl, hb1⟩
    have h1 := (h.below hb1).more hb1.size
    have hr := putTo_range at_ (z % 18446744073709551616) h.2.1 8
    go_wp2_with fail
    refine (cell_any _ _ _ _ at_ (by omega) ha.1 ha.2 _ h1).mono ?_
    rintro e w2 ⟨rfl, hb2⟩
    have h2 := (h1.below hb2).more hb2.size
    have hbA := hb1.trans (hb2.mono hb1.size)
    go_wp2_with fail
    refine (rcell_any _ _ _ _ at_ (by omega) ha.1 ha.2 _ h2).mono ?_
    rintro e w3 ⟨rfl, rfl⟩
    go_wp2_with fail
    refine (putCell_any _ _ _ _ at_ z (by omega) ha.1 ha.2 _ h2).mono ?_
    rintro e w3 ⟨⟨A3, c3, rfl, ho3⟩, hb3⟩
    have h3 := (h2.below hb3).more hb3.size
    have hbB := hbA.trans (hb3.mono hbA.size)
    go_wp2_with fail
    refine (rputCell_any _ _ _ _ at_ z (by omega) ha.1 ha.2 _ h3).mono ?_
    rintro e w4 ⟨⟨A4, c4, rfl, ho4⟩, hb4⟩
    have hbC := hbB.trans (hb4.mono hbB.size)
    have ho3' := (ho3.at_ hr).below hb4
    have ho4' := ho4.at_ hr
    go_wp2_with fail
    refine (same_any _ _ _ _ _ _ _ _ _ _ _ ho3' ho4').mono ?_
    rintro e w5 ⟨rfl, rfl⟩
    rw [decide_eq_true (rfl : putTo bs at_ (z % 18446744073709551616) 8 = _)]
    go_wp2_with fail
    go_ret
    exact ⟨rfl, hbC⟩
  · go_enter Try.func7, Try.ntmps7
    go_wp2_with fail
    refine (leAwake_any _).mono ?_
    rintro e w1 ⟨rfl, hb1⟩
    go_wp2_with fail
    go_ret
    exact ⟨rfl, hb1⟩

end Go.Proofs.Ytghpnhiliihlaaa
