/-
  root: the reference's Encode.
-/
import Derived.Test.YtghpnhiliihlaaaRootB
namespace Go.Proofs.Ytghpnhiliihlaaa.Root
open Go.RowKit Go.Shelf Go.Proofs.Ytghpnhiliihlaaa
attribute [local go_sem] Oper.semAt_some
set_option linter.unusedVariables false
set_option linter.unusedSimpArgs false

/-- What holds while the reference writes a root: its box, the bytes so far. -/
def REncSt (w : World) (g : Int) (A : Option Addr) (n c : Nat) (v : Value) (bs : List Int) (W : World) : Prop :=
  W.heap[w.heap.size]? = some (.cells #[.int .u64 g, .slice A n c] 40 (0, 0)) ∧ (∃ A' c', v = .slice A' 64 c' ∧ OwnBytes W w.heap.size (.slice A' 64 c') bs) ∧ Below w.heap.size w W
theorem rput_step {w W : World} {g : Int} {A : Option Addr} {n c : Nat} {v : Value} {bs : List Int} (st : REncSt w g A n c v bs W) (hr : ∀ x ∈ bs, 0 ≤ x ∧ x < 256) (a : Int) (ha0 : 0 ≤ a) (ha1 : a ≤ 1000) (size z : Int) :
    Calls Try.prog 24 #[v, .int .i64 a, .int .i64 size, .int .u64 z] W fun e W' => ∃ v', e = .returned v' ∧ REncSt w g A n c v' (putTo bs a z (rounds8 size)) W' ∧ Below W.heap.size W W' := by
  obtain ⟨h1, ⟨A', c', rfl, h3⟩, h5⟩ := st
  refine (rputNum_any A' 64 c' bs a size z (by decide) (by omega) (by omega) W (h3.at_ hr)).mono ?_
  rintro e W' ⟨⟨A2, c2, rfl, ho⟩, hb⟩
  exact ⟨_, rfl, ⟨(hb.block _ (blk_lt h1)).trans h1, ⟨A2, c2, rfl, ho.base_le h5.size⟩, h5.trans (hb.mono h5.size)⟩, hb⟩
theorem REncSt.alloc {w W : World} {g : Int} {A : Option Addr} {n c : Nat} {v : Value} {bs : List Int} (st : REncSt w g A n c v bs W) (o : Obj) : REncSt w g A n c v bs (W.alloc o) := by
  obtain ⟨h1, ⟨A', c', rfl, h3⟩, h5⟩ := st
  exact ⟨blk_alloc h1 _, ⟨A', c', rfl, h3.alloc _⟩, h5.alloc h5.size _⟩
set_option maxRecDepth 100000 in
set_option maxHeartbeats 2000000 in
theorem rencode_no (g : Int) (A : Option Addr) (c : Nat) (l : List S63) (w : World) (h : SnapsAt w A l) (hc : l.length ≤ c) (hl : l.length ≤ 140737488351232) (hok : ¬ okRoot g l) :
    Calls Try.prog 31 #[.agg #[.int .u64 g, .slice A l.length c]] w fun e w' => e = .returned (.tuple #[.slice none 0 0, .int .i64 1]) ∧ Below w.heap.size w w' := by
  go_enter Try.func31, Try.ntmps31
  go_wp2_with fail
  have hA : Below w.heap.size w (w.alloc (.cells #[.int .u64 g, .slice A l.length c] 40)) := (Below.refl _ _).alloc (Nat.le_refl _) _
  refine (may_any g A c l _ (h.below hA) hc hl).mono ?_
  rintro e w1 ⟨rfl, hb1⟩
  rw [decide_eq_false hok]
  have hbA : Below w.heap.size w w1 := hA.trans (hb1.mono hA.size)
  clear hA hb1
  go_wp2_with fail
  go_ret2
  exact ⟨rfl, hbA⟩
set_option maxRecDepth 100000 in
set_option maxHeartbeats 2000000 in
theorem rencode_yes (g : Int) (A : Option Addr) (c : Nat) (l : List S63) (w : World) (h : SnapsAt w A l) (hc : l.length ≤ c) (hl : l.length ≤ 140737488351232) (hok : okRoot g l) :
    Calls Try.prog 31 #[.agg #[.int .u64 g, .slice A l.length c]] w fun e w' => (∃ A' c', e = .returned (.tuple #[.slice A' 64 c', .int .i64 0]) ∧ OwnBytes w' w.heap.size (.slice A' 64 c') (encR g l)) ∧ Below w.heap.size w w' := by
  have hA : Below w.heap.size w (w.alloc (.cells #[.int .u64 g, .slice A l.length c] 40)) := (Below.refl _ _).alloc (Nat.le_refl _) _
  have hF := (may_any g A c l _ (h.below hA) hc hl)
  rw [decide_eq_true hok] at hF
  have hmk : ∀ w : World, (Instr.makeSlice 22 (.int .i64 64) (.int .i64 64)).run Try.prog w = .ok (.slice (some ⟨w.heap.size, 0, none⟩) 64 64) (w.alloc (.cells (ints .u8 (nots 64)) 5)) := fun w => make_n 64 (by decide) w
  have hl4 := hok.2.1
  go_enter Try.func31, Try.ntmps31
  go_wp2_with fail
  refine hF.mono ?_
  rintro e w1 ⟨rfl, hb1⟩
  have hR : w1.heap[w.heap.size]? = some (.cells #[.int .u64 g, .slice A l.length c] 40 (0, 0)) := blk_below (heap_alloc_new _ _) hb1 (by simp)
  have hbA : Below w.heap.size w w1 := hA.trans (hb1.mono hA.size)
  clear hA hb1 hF
  go_wp2_with fail
  have hS : REncSt w g A l.length c (.slice (some ⟨w1.heap.size, 0, none⟩) 64 64) (nots 64) (w1.alloc (.cells (ints .u8 (nots 64)) 5)) :=
    ⟨blk_alloc hR _, ⟨_, _, rfl, OwnBytes.of_blk (L := nots 64) (heap_alloc_new _ _) hbA.size (by simp [nots])⟩, hbA.alloc hbA.size _⟩
  clear hR hbA
  generalize w1.alloc (.cells (ints .u8 (nots 64)) 5) = W1 at hS ⊢
  generalize Value.slice (some ⟨w1.heap.size, 0, none⟩) 64 64 = v1 at hS ⊢
  refine (rput_step hS (nots_range 64) 0 (by omega) (by omega) 4 1280459075).mono ?_
  rintro e W2 ⟨v2, rfl, hS2, -⟩
  have hcR : W2.cell? ⟨w.heap.size, 0, none⟩ = some (.int .u64 g) := cell_of_row W2 _ 0 _ _ _ hS2.1
  have HS2 := Lib.hid hS2
  clear hS hS2
  go_wp2_with fail
  refine (rput_step HS2.out (putTo_range _ _ (nots_range 64) _) 4 (by omega) (by omega) 8 g).mono ?_
  rintro e W3 ⟨v3, rfl, hS3, -⟩
  have hcR1 : W3.cell? ⟨w.heap.size, 1, none⟩ = some (.slice A l.length c) := cell_of_row W3 _ 1 _ _ _ hS3.1
  have hwl : IntKind.u64.wrap (l.length : Int) = (l.length : Int) := u64_of (by omega) (by omega)
  have HS3 := Lib.hid hS3
  clear hcR hS3
  go_wp2_with fail
  refine (rput_step HS3.out (putTo_range _ _ (putTo_range _ _ (nots_range 64) _) _) 12 (by omega) (by omega) 2 _).mono ?_
  rintro e W4 ⟨v4, rfl, hS4, -⟩
  have hcR1 : W4.cell? ⟨w.heap.size, 1, none⟩ = some (.slice A l.length c) := cell_of_row W4 _ 1 _ _ _ hS4.1
  change REncSt w g A l.length c v4 (headR g l.length) W4 at hS4
  have HS4 := Lib.hid hS4
  clear HS2 HS3 hS4
  go_wp2_with fail
  go_loopw [4, 26] (fun v i wr => ∃ k : Nat, k ≤ l.length ∧ i = .int .i64 k ∧ REncSt w g A l.length c v (putsTo l (headR g l.length) k) wr) (fun _ i _ => l.length - (intOf i).toNat)
  case atStart => exact ⟨0, Nat.zero_le _, rfl, HS4.out⟩
  case round =>
    obtain ⟨k, hk, rfl, hS⟩ := hrel
    rename Value => v5
    clear HS4 hcR1
    by_cases hlt : k < l.length
    · have hsn := hok.2.2 k hlt
      have hnx : wrap64 ((k : Int) + 1) = ((k + 1 : Nat) : Int) := by rw [wrap64_of] <;> omega
      have i1 : (k : Int) < (l.length : Int) := Int.ofNat_lt.2 hlt
      obtain ⟨ad, rfl, hx0, hx1⟩ := snap_cells (h.below hS.2.2) hlt
      obtain ⟨t0, -, t2, -, -⟩ := hsn
      have hput : putsTo l (headR g l.length) (k + 1) = putTo (putTo (putsTo l (headR g l.length) k) ((14 + 10 * k : Nat) : Int) (l.getD k z63).f0 8) ((22 + 10 * k : Nat) : Int) (l.getD k z63).f1 2 := rfl
      rw [show ((14 + 10 * k : Nat) : Int) = 14 + 10 * (k : Int) by omega, show ((22 + 10 * k : Nat) : Int) = 22 + 10 * (k : Int) by omega] at hput
      generalize hx : l.getD k z63 = x at *
      have hwt : IntKind.u64.wrap x.f1 = x.f1 := u64_of t0 (by omega)
      have m1 : wrap64 (10 * (k : Int)) = ((10 * k : Nat) : Int) := by rw [wrap64_of] <;> omega
      have m2 : wrap64 (14 + ((10 * k : Nat) : Int)) = ((14 + 10 * k : Nat) : Int) := by rw [wrap64_of] <;> omega
      have m3 : wrap64 (22 + ((10 * k : Nat) : Int)) = ((22 + 10 * k : Nat) : Int) := by rw [wrap64_of] <;> omega
      have HS := Lib.hid hS
      have Hput := Lib.hid hput
      clear hS hput
      have k4 : k ≤ 4 := Nat.le_trans hk hl4
      have hk4 : (k : Int) ≤ 4 := Int.ofNat_le.2 k4
      go_wp2_with fail
      refine (rput_step (HS.out.alloc _) (putsTo_range l (headR_range g _) k) (14 + 10 * (k : Int)) (by omega) (by omega) 8 x.f0).mono ?_
      rintro e W5 ⟨v6, rfl, hS5, hk5⟩
      have hbx : W5.heap[wr.heap.size]? = some (.cells #[.int .u64 x.f0, .int .i64 x.f1] 63 (0, 0)) := (hk5.block _ (by simp)).trans (heap_alloc_new _ _)
      have hc1 : W5.cell? ⟨wr.heap.size, 1, none⟩ = some (.int .i64 x.f1) := cell_of_row W5 _ 1 _ _ _ hbx
      have HS5 := Lib.hid hS5
      clear hS5 hk5 hbx
      go_wp2_with fail
      refine (rput_step HS5.out (putTo_range _ _ (putsTo_range l (headR_range g _) k) _) (22 + 10 * (k : Int)) (by omega) (by omega) 2 x.f1).mono ?_
      rintro e W6 ⟨v7, rfl, hS6, -⟩
      have hms : l.length - (k + 1) < l.length - k := Nat.sub_lt_sub_left hlt (Nat.lt_succ_self k)
      have HS6 := Lib.hid hS6
      clear hS6 HS5
      go_wp2_with fail
      go_roundw
      case rel => exact ⟨k + 1, hlt, by first | rfl | rw [hnx], by rw [Hput.out]; exact HS6.out⟩
      case measure => first | exact hms | (rw [hnx]; exact hms)
    · obtain rfl : k = l.length := by omega
      have i1 : ¬ (l.length : Int) < (l.length : Int) := by omega
      obtain ⟨A7, c7, e7, ho7⟩ := hS.2.1
      subst e7
      have ho8 := ho7.cap
      have hs60 : (60 : Nat) ≤ 64 := by decide
      have HS := Lib.hid hS
      have HO7 := Lib.hid ho7
      clear hS ho7
      go_wp2_with fail
      refine (rcrc_any A7 60 c7 ((bodyR g l).take 60) _ wr (BytesAt.take (HO7.out.at_ (bodyR_range g l)) hs60) (by decide)).mono ?_
      rintro e W8 ⟨rfl, rfl⟩
      have hC : (4294967295 ^^^ crcTo ((bodyR g l).take 60) 60) < 4294967296 := crc_lt (bodyR_range g l)
      have hdef : encR g l = putTo (putsTo l (headR g l.length) l.length) 60 ((4294967295 ^^^ crcTo ((bodyR g l).take 60) 60 : Nat) : Int) 4 := rfl
      have Hdef := Lib.hid hdef
      clear hdef
      generalize 4294967295 ^^^ crcTo ((bodyR g l).take 60) 60 = C at hC Hdef ⊢
      have hwC : IntKind.u64.wrap (C : Int) = (C : Int) := u64_of (by omega) (by omega)
      go_wp2_with fail
      refine (rput_step HS.out (bodyR_range g l) 60 (by omega) (by omega) 4 (C : Int)).mono ?_
      rintro e W9 ⟨v9, rfl, hS9, -⟩
      obtain ⟨A9, c9, rfl, ho9⟩ := hS9.2.1
      have hbe := hS9.2.2
      have HO9 := Lib.hid ho9
      clear ho9 hS9
      go_wp2_with fail
      go_ret2
      exact ⟨⟨A9, c9, rfl, by rw [Hdef.out]; exact HO9.out⟩, hbe⟩
end Go.Proofs.Ytghpnhiliihlaaa.Root
