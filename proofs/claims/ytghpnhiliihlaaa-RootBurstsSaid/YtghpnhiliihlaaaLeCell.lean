/-
  le.Cell, le.PutCell and their references; the examples.
-/
import Derived.Test.YtghpnhiliihlaaaLeMixB
import Derived.Test.YtghpnhiliihlaaaLeCrc
import Derived.Test.YtghpnhiliihlaaaLeMath
import Derived.Lib.SmallJoins
namespace Go.Proofs.Ytghpnhiliihlaaa
set_option linter.unusedVariables false
set_option linter.unusedSimpArgs false
open Go.RowKit

theorem rounds8_8 : rounds8 8 = 8 := rfl
theorem cell_any (A : Option Addr) (n c : Nat) (bs : List Int) (a : Int) (hn : n ≤ 140737488351232) (ha0 : -9223372036854775808 ≤ a) (ha1 : a ≤ 9223372036854775807) (w : World) (hbs : BytesAt w w.heap.size A n bs) :
    Calls Try.prog 25 #[.slice A n c, .int .i64 a] w fun e w' => e = .returned (.int .i64 (wrap64 (numTo bs a 8))) ∧ Below w.heap.size w w' := by
  have hc := num_any A n c bs a 8 hn ha0 ha1 w hbs
  rw [rounds8_8] at hc
  go_enter Try.func25, Try.ntmps25
  go_wp2_with fail
  refine hc.mono ?_
  rintro e w1 ⟨rfl, hb⟩
  go_wp2
  go_ret
  exact ⟨rfl, hb⟩
theorem rcell_any (A : Option Addr) (n c : Nat) (bs : List Int) (a : Int) (hn : n ≤ 140737488351232) (ha0 : -9223372036854775808 ≤ a) (ha1 : a ≤ 9223372036854775807) (w : World) (hbs : BytesAt w w.heap.size A n bs) :
    Calls Try.prog 26 #[.slice A n c, .int .i64 a] w fun e w' => e = .returned (.int .i64 (wrap64 (numTo bs a 8))) ∧ w = w' := by
  have hc := rnum_any A n c bs a 8 hn ha0 ha1 w hbs
  rw [rounds8_8] at hc
  go_enter Try.func26, Try.ntmps26
  go_wp2_with fail
  refine hc.mono ?_
  rintro e w1 ⟨rfl, rfl⟩
  go_wp2
  go_ret
  exact ⟨rfl, rfl⟩
theorem putCell_any (A : Option Addr) (n c : Nat) (bs : List Int) (a z : Int) (hn : n ≤ 140737488351232) (ha0 : -9223372036854775808 ≤ a) (ha1 : a ≤ 9223372036854775807) (w : World) (hbs : BytesAt w w.heap.size A n bs) :
    Calls Try.prog 27 #[.slice A n c, .int .i64 a, .int .i64 z] w fun e w' =>
      (∃ A' c', e = .returned (.slice A' n c') ∧ OwnBytes w' w.heap.size (.slice A' n c') (putTo bs a (z % 18446744073709551616) 8)) ∧ Below w.heap.size w w' := by
  have hc := putNum_any A n c bs a 8 (z % 18446744073709551616) hn ha0 ha1 w hbs
  rw [rounds8_8] at hc
  go_enter Try.func27, Try.ntmps27
  go_wp2_with fail
  refine hc.mono ?_
  rintro e w1 ⟨⟨A', c', rfl, ho⟩, hb⟩
  go_wp2
  go_ret
  exact ⟨⟨_, _, rfl, ho⟩, hb⟩
theorem rputCell_any (A : Option Addr) (n c : Nat) (bs : List Int) (a z : Int) (hn : n ≤ 140737488351232) (ha0 : -9223372036854775808 ≤ a) (ha1 : a ≤ 9223372036854775807) (w : World) (hbs : BytesAt w w.heap.size A n bs) :
    Calls Try.prog 28 #[.slice A n c, .int .i64 a, .int .i64 z] w fun e w' =>
      (∃ A' c', e = .returned (.slice A' n c') ∧ OwnBytes w' w.heap.size (.slice A' n c') (putTo bs a (z % 18446744073709551616) 8)) ∧ Below w.heap.size w w' := by
  have hc := rputNum_any A n c bs a 8 (z % 18446744073709551616) hn ha0 ha1 w hbs
  rw [rounds8_8] at hc
  go_enter Try.func28, Try.ntmps28
  go_wp2_with fail
  refine hc.mono ?_
  rintro e w1 ⟨⟨A', c', rfl, ho⟩, hb⟩
  go_wp2
  go_ret
  exact ⟨⟨_, _, rfl, ho⟩, hb⟩

/-! ### the examples -/
def ascii9 : List Int := [49, 50, 51, 52, 53, 54, 55, 56, 57]
theorem crc_ascii9 : 4294967295 ^^^ crcTo ascii9 9 = 3421780262 := by decide +kernel
theorem num_cell1 : wrap64 (numTo [1, 0, 0, 0, 0, 0, 0, 128] 0 8) = -9223372036854775807 := by decide +kernel
theorem num_513 : numTo [1, 2] 0 2 = 513 := by decide +kernel
theorem mix_ad : strOfNums (mixOf [97, 98] [99, 100] (cutOf 1 2) true) = { data := #[97, 100] } := by decide +kernel

theorem BytesAt.lit (w : World) (bs : List Int) (hr : ∀ x ∈ bs, 0 ≤ x ∧ x < 256) (fr : Nat × Nat) (n : Nat) (hn : bs.length = n) : BytesAt (w.alloc (.cells (Go.Proofs.Ytghpnhiliihlaaa.ints .u8 bs) 5 fr)) (w.alloc (.cells (Go.Proofs.Ytghpnhiliihlaaa.ints .u8 bs) 5 fr)).heap.size (some ⟨w.heap.size, 0, none⟩) n bs := by
  refine ⟨hn, hr, fun h0 => ⟨w.heap.size, 0, rfl, by simp, fun i hi => ?_⟩⟩
  rw [Nat.zero_add, World.cell?_alloc_mark]
  simp only [Go.Proofs.Ytghpnhiliihlaaa.ints, List.getElem?_toArray, List.getElem?_map]
  have : i < bs.length := by omega
  rw [List.getElem?_eq_getElem this]
  rfl
set_option maxHeartbeats 1000000 in
theorem leAwake_any (w : World) : Calls Try.prog 15 #[] w fun e w' => e = .returned (.bool true) ∧ Below w.heap.size w w' := by
  have kc := fun (w : World) (C : Array Value) (n c g : Nat) (hg : g = w.heap.size) => Go.Joins.run_convert_bytes_const_at (P := Try.prog) w 22 5 C n c g hg Try.underlying22 Try.underlying5
  go_enter Try.func15, Try.ntmps15
  go_wp2_with fail
  have hb0 : Below w.heap.size w (w.alloc (.cells (ints .u8 ascii9) 5 (9, 10))) := (Below.refl _ _).alloc (Nat.le_refl _) _
  refine (crc_any _ 9 9 ascii9 _ _ (BytesAt.lit w ascii9 (by decide) (9, 10) 9 rfl) (by omega)).mono ?_
  rintro e w1 ⟨rfl, rfl⟩
  rw [crc_ascii9]
  generalize hw1 : w.alloc (.cells (ints .u8 ascii9) 5 (9, 10)) = w1 at *
  clear hw1
  go_wp2_with fail
  refine (cell_any _ 8 8 _ 0 (by omega) (by omega) (by omega) _ (BytesAt.lit w1 [1, 0, 0, 0, 0, 0, 0, 128] (by decide) (0, 0) 8 rfl)).mono ?_
  rintro e w2 ⟨rfl, hb2⟩
  rw [num_cell1]
  have hbA : Below w.heap.size w w2 := (hb0.alloc hb0.size _).trans (hb2.mono (by have := hb0.size; simp; omega))
  clear hb2 hb0
  go_wp2_with fail
  refine (num_any _ 2 2 _ 0 2 (by omega) (by omega) (by omega) _ (BytesAt.lit w2 [1, 2] (by decide) (0, 0) 2 rfl)).mono ?_
  rintro e w3 ⟨rfl, hb3⟩
  rw [show rounds8 2 = 2 from rfl, num_513]
  have hbB : Below w.heap.size w w3 := (hbA.alloc hbA.size _).trans (hb3.mono (by have := hbA.size; simp; omega))
  clear hb3 hbA
  go_wp2_with fail
  have hl1 := (BytesAt.lit w3 [97, 98] (by decide) (2, 3) 2 rfl)
  have hl2 := (BytesAt.lit (w3.alloc (.cells (ints .u8 [97, 98]) 5 (2, 3))) [99, 100] (by decide) (2, 3) 2 rfl)
  refine (mix_any _ _ 2 2 2 2 [97, 98] [99, 100] 1 true _ ((hl1.keep fun p hp => World.cell?_alloc_lt _ _ p (by simpa using hp)).more (by simp)) (by rw [show w3.heap.size + 1 = (w3.alloc (.cells (ints .u8 [97, 98]) 5 (2, 3))).heap.size by simp]; exact hl2) (by omega) (by omega) (by omega) (by omega)).mono ?_
  rintro e w4 ⟨⟨A2, c2, rfl, ho⟩, hb4⟩
  have hbC : Below w.heap.size w w4 := ((hbB.alloc hbB.size _).alloc (by have := hbB.size; simp; omega) _).trans (hb4.mono (by have := hbB.size; simp; omega))
  have hst := run_str (c := c2) (ho.at_ (by decide))
  rw [mix_ad] at hst
  clear ho hb4 hbB
  go_wp2_with fail
  go_ret
  exact ⟨rfl, hbC⟩

end Go.Proofs.Ytghpnhiliihlaaa
