/-
  disk: an Act that came in; DiskNone.
-/
import Derived.Test.YtpllifppjlakpaaDkI
import Derived.Deep.SlicePairs
import Derived.Lib.SmallJoins
import Derived.ProofKit
import Derived.OpenShut
namespace Go.Proofs.Ytpllifppjlakpaa.Dk
open Go.RowKit Go.Shelf Go.Proofs.Ytpllifppjlakpaa
attribute [local go_sem] Oper.semAt_some
set_option linter.unusedVariables false
set_option linter.unusedSimpArgs false
structure ActV where
  do_ : Int
  n : Int
  A : Option Addr
  m : Nat
  c : Nat
  bs : List Int
  f : FateV
def ActV.cells (a : ActV) : List Value := [.int .i64 a.do_, .int .i64 a.n, .slice a.A a.m a.c, .int .u64 a.f.stay, .int .i64 a.f.torn, .int .i64 a.f.cut, .bool a.f.head]
structure ActOk (W : World) (a : ActV) : Prop where
  bytes : BytesAt W W.heap.size a.A a.m a.bs
  mc : a.m ≤ a.c
  n : -9223372036854775808 ≤ a.n ∧ a.n ≤ 9223372036854775807
  torn : -9223372036854775808 ≤ a.f.torn ∧ a.f.torn ≤ 9223372036854775807
  cut : -9223372036854775808 ≤ a.f.cut ∧ a.f.cut ≤ 9223372036854775807
  stay : 0 ≤ a.f.stay ∧ a.f.stay < 18446744073709551616
theorem wf64 {z : Int} (h : (Lit.int .i64 z).wf = true) : -9223372036854775808 ≤ z ∧ z ≤ 9223372036854775807 := by
  simp only [Lit.wf, Bool.and_eq_true, decide_eq_true_eq] at h
  exact h
theorem wfu64 {z : Int} (h : (Lit.int .u64 z).wf = true) : 0 ≤ z ∧ z < 18446744073709551616 := by
  simp only [Lit.wf, Bool.and_eq_true, decide_eq_true_eq] at h
  have e1 : IntKind.u64.min = 0 := rfl
  have e2 : IntKind.u64.max = 18446744073709551615 := rfl
  omega
open Go.ChangeShapes Go.WideShapes Go.ChangeAt in
theorem bytes_cell {H : Type} {enc : TypeId × Value → H} {W : World} {fuel : Nat} {v : Value} {y : DataW H × List MemPlace} (h : DataW.trod enc Try.prog W 0 (fun _ => true) true fuel 22 [v] = some y) :
    ∃ a len cap bs, v = .slice a len cap ∧ BytesAt W W.heap.size a len bs ∧ len ≤ cap := by
  rcases open_ints Try.underlying22 Try.underlying5 (by kernel_rfl) h with ⟨hcs, _⟩ | ⟨x, l, c, zs, hcs, _, hl, hm, hz, hx, hcell, hwz⟩
  · obtain rfl : v = .slice none 0 0 := by simpa using hcs
    exact ⟨none, 0, 0, [], rfl, ⟨rfl, by simp, by omega⟩, Nat.le_refl _⟩
  · obtain rfl : v = .slice (some x) l c := by simpa using hcs
    simp only [if_true] at hz
    refine ⟨some x, l, c, zs.take l, rfl, ⟨by rw [List.length_take]; omega, ?_, ?_⟩, by omega⟩
    · intro n hn
      have := hwz n (List.mem_of_mem_take hn)
      simp only [Lit.wf, Bool.and_eq_true, decide_eq_true_eq] at this
      have h1 : IntKind.u8.min = 0 := rfl
      have h2 : IntKind.u8.max = 255 := rfl
      omega
    · intro h0
      obtain ⟨b, off, spot⟩ := x
      have hc0 := hcell 0 (by omega)
      have hspot : spot = none := by simpa [Addr.add] using World.cell?_spot hc0
      subst hspot
      refine ⟨b, off, rfl, (World.block_lt_of_cell? W _ hc0 : _), fun i hi => ?_⟩
      have hci := hcell i (by omega)
      rw [Addr.add_mid] at hci
      rw [hci, List.getElem?_take_of_lt hi, List.getD_eq_getElem?_getD]
theorem fate_open {H : Type} {enc : TypeId × Value → H} {W : World} {fuel : Nat} {c3 c4 c5 c6 : Value} {y : DataW H × List MemPlace} (h : DataW.trod enc Try.prog W 0 (fun _ => true) true fuel 30 [c3, c4, c5, c6] = some y) :
    ∃ f : FateV, c3 = .int .u64 f.stay ∧ c4 = .int .i64 f.torn ∧ c5 = .int .i64 f.cut ∧ c6 = .bool f.head ∧ (-9223372036854775808 ≤ f.torn ∧ f.torn ≤ 9223372036854775807) ∧ (-9223372036854775808 ≤ f.cut ∧ f.cut ≤ 9223372036854775807) ∧ 0 ≤ f.stay ∧ f.stay < 18446744073709551616 := by
  obtain ⟨y0, y1, y2, y3, n, -, -, h0, h1, h2, h3⟩ := Go.Joins.trod_struct4 Try.underlying30 h
  have e28 : Try.prog.cellsOf 28 = 1 := by kernel_rfl
  have e3 : Try.prog.cellsOf 3 = 1 := by kernel_rfl
  have e4 : Try.prog.cellsOf 4 = 1 := by kernel_rfl
  simp only [e28, e3, e4, List.drop_zero, List.drop_succ_cons, List.take_succ_cons, List.take_zero] at h0 h1 h2 h3
  obtain ⟨z0, k0, _, w0⟩ := DataW.trod_int Try.underlying28 h0
  obtain ⟨z1, k1, _, w1⟩ := DataW.trod_int Try.underlying3 h1
  obtain ⟨z2, k2, _, w2⟩ := DataW.trod_int Try.underlying3 h2
  obtain ⟨b3, k3, _⟩ := DataW.trod_bool Try.underlying4 h3
  exact ⟨⟨z0, z1, z2, b3⟩, by simpa using k0, by simpa using k1, by simpa using k2, by simpa using k3, wf64 w1, wf64 w2, wfu64 w0⟩
theorem act_open {H : Type} {enc : TypeId × Value → H} {W : World} {fuel : Nat} {cs : List Value} {y : DataW H × List MemPlace} (h : DataW.trod enc Try.prog W 0 (fun _ => true) true fuel 32 cs = some y) :
    ∃ a : ActV, cs = a.cells ∧ ActOk W a := by
  obtain ⟨y0, y1, y2, y3, n, -, hl, h0, h1, h2, h3⟩ := Go.Joins.trod_struct4 Try.underlying32 h
  have e32 : Try.prog.cellsOf 32 = 7 := by kernel_rfl
  have e3 : Try.prog.cellsOf 3 = 1 := by kernel_rfl
  have e22 : Try.prog.cellsOf 22 = 1 := by kernel_rfl
  have e30 : Try.prog.cellsOf 30 = 4 := by kernel_rfl
  rw [e32] at hl
  match cs, hl with
  | [c0, c1, c2, c3, c4, c5, c6], _ =>
    simp only [e3, e22, e30, List.drop_zero, List.drop_succ_cons, List.take_succ_cons, List.take_zero] at h0 h1 h2 h3
    obtain ⟨z0, k0, _, w0⟩ := DataW.trod_int Try.underlying3 h0
    obtain ⟨z1, k1, _, w1⟩ := DataW.trod_int Try.underlying3 h1
    obtain ⟨A, m, c, bs, rfl, hb, hmc⟩ := bytes_cell h2
    obtain ⟨f, rfl, rfl, rfl, rfl, q1, q2, q3⟩ := fate_open h3
    obtain rfl : c0 = .int .i64 z0 := by simpa using k0
    obtain rfl : c1 = .int .i64 z1 := by simpa using k1
    exact ⟨⟨z0, z1, A, m, c, bs, f⟩, rfl, ⟨hb, hmc, wf64 w1, q1, q2, q3⟩⟩
end Go.Proofs.Ytpllifppjlakpaa.Dk
