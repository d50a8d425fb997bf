/-
  disk: DiskOf: the law's walk: for any bytes and any sector the law returns true, and nothing that was there is turned.
-/
import Derived.Test.YtpllifppjlakpaaDlI
namespace Go.Proofs.Ytpllifppjlakpaa.Dk
open Go.RowKit Go.Shelf Go.Proofs.Ytpllifppjlakpaa
attribute [local go_sem] Oper.semAt_some
set_option linter.unusedVariables false
set_option linter.unusedSimpArgs false
def readAct (k : Int) : ActV := ⟨9, k, none, 0, 0, [], ⟨0, 0, 0, false⟩⟩
set_option maxHeartbeats 2000000 in
theorem of_law (W : World) (A : Option Addr) (m c : Nat) (bs : List Int) (hb : BytesAt W W.heap.size A m bs) (hmc : m ≤ c) (k : Int) (hk : -9223372036854775808 ≤ k ∧ k ≤ 9223372036854775807) :
    Calls Try.prog 7 #[.slice A m c, .int .i64 k] W fun e W' => e = .returned (.bool true) ∧ Below W.heap.size W W' := by
  go_enter Try.func7, Try.ntmps7
  go_wp2_with fail
  refine (awake_any _).mono ?_
  rintro e W1 ⟨rfl, hB1⟩
  by_cases hm : 5000 < m
  · go_wp2_with fail
    go_ret
    exact ⟨rfl, hB1⟩
  · have hb1 : BytesAt W1 W1.heap.size A m bs := (hb.below hB1).more hB1.size
    go_wp2_with fail
    refine (of_any hb1 hmc (by omega)).mono ?_
    rintro e W2 ⟨hB2, d, F, rfl, hF, x2⟩
    have hB02 := hB1.trans (hB2.mono hB1.size)
    have hb2 : BytesAt W2 W2.heap.size A m bs := (hb1.below hB2).more hB2.size
    go_wp2_with fail
    refine (rof_any hb2 hmc (by omega)).mono ?_
    rintro e W3 ⟨hB3, r, G, rfl, hG, y3⟩
    have hB03 := hB02.trans (hB3.mono hB02.size)
    have x3 := x2.below hB3
    have hboth : Both W W3 d r (ofDk bs) := ⟨hB03, F, G, x3, y3, fun b h h' => by have := x2.2.1 b h; have := hG b h'; omega, fun b h => Nat.le_trans hB1.size (hF b h), fun b h => Nat.le_trans hB02.size (hG b h)⟩
    have hal := alike_any x3 y3
    clear hb hb1 hb2 hB2 hB3 hB02 hB1 hF hG x2 x3 y3
    go_wp2_with fail
    refine hal.mono ?_
    rintro e W4 ⟨rfl, hB4⟩
    have h4 := hboth.keep hB4
    have hact := lact_9 (a := readAct k) h4 (new_holds rfl rfl) hk (show (9 : Int) ≠ 0 by decide) (show (9 : Int) ≠ 1 by decide) (show (9 : Int) ≠ 2 by decide) (show (9 : Int) ≠ 3 by decide)
    clear hal hboth
    go_wp2_with fail
    refine hact.mono ?_
    rintro e W5 ⟨rfl, h5⟩
    have hB5 := h5.below
    clear hact h4 h5
    go_wp2_with fail
    go_ret
    exact ⟨rfl, hB5⟩
end Go.Proofs.Ytpllifppjlakpaa.Dk
namespace Go.Proofs.Ytpllifppjlakpaa
open Go.RowKit
theorem diskOf_walk (W : World) (A : Option Addr) (m c : Nat) (bs : List Int) (hb : BytesAt W W.heap.size A m bs) (hmc : m ≤ c) (_hc : c ≤ 140737488351232) (k : Int) (wf : (Lit.int .i64 k).wf = true) :
    Calls Try.prog 7 #[.slice A m c, .int .i64 k] W fun e W' => e = .returned (.bool true) ∧ Below W.heap.size W W' := Dk.of_law W A m c bs hb hmc k (Dk.wf64 wf)
end Go.Proofs.Ytpllifppjlakpaa
