/-
  root: Encode, and the reference's.
-/
import Derived.Test.YtghpnhiliihlaaaRootA
import Derived.Test.YtghpnhiliihlaaaLeMix
import Derived.Test.YtghpnhiliihlaaaLeMath
import Derived.Test.YtghpnhiliihlaaaLeBurstLaw
namespace Go.Proofs.Ytghpnhiliihlaaa.Root
open Go.RowKit Go.Shelf Go.Proofs.Ytghpnhiliihlaaa
attribute [local go_sem] Oper.semAt_some
set_option linter.unusedVariables false
set_option linter.unusedSimpArgs false

def putsTo (l : List S63) (b : List Int) : Nat → List Int
  | 0 => b
  | k + 1 => putTo (putTo (putsTo l b k) ((14 + 10 * k : Nat) : Int) (l.getD k z63).f0 8) ((22 + 10 * k : Nat) : Int) (l.getD k z63).f1 2
def headR (g : Int) (n : Nat) : List Int := putTo (putTo (putTo (nots 64) 0 1280459075 4) 4 g 8) 12 (n : Int) 2
def bodyR (g : Int) (l : List S63) : List Int := putsTo l (headR g l.length) l.length
def encR (g : Int) (l : List S63) : List Int := putTo (bodyR g l) 60 ((4294967295 ^^^ crcTo ((bodyR g l).take 60) 60 : Nat) : Int) 4
theorem putsTo_length (l : List S63) (b : List Int) : ∀ k, (putsTo l b k).length = b.length
  | 0 => rfl
  | k + 1 => by rw [putsTo, putTo_length, putTo_length, putsTo_length l b k]
theorem nots_range (n : Nat) : ∀ x ∈ nots n, 0 ≤ x ∧ x < 256 := by
  intro x hx
  have := List.eq_of_mem_replicate hx
  omega
theorem putsTo_range (l : List S63) {b : List Int} (h : ∀ x ∈ b, 0 ≤ x ∧ x < 256) : ∀ k, ∀ x ∈ putsTo l b k, 0 ≤ x ∧ x < 256
  | 0 => h
  | k + 1 => putTo_range _ _ (putTo_range _ _ (putsTo_range l h k) _) _
theorem headR_range (g : Int) (n : Nat) : ∀ x ∈ headR g n, 0 ≤ x ∧ x < 256 := putTo_range _ _ (putTo_range _ _ (putTo_range _ _ (nots_range 64) _) _) _
theorem headR_length (g : Int) (n : Nat) : (headR g n).length = 64 := by
  unfold headR; rw [putTo_length, putTo_length, putTo_length]; simp [nots]
theorem bodyR_range (g : Int) (l : List S63) : ∀ x ∈ bodyR g l, 0 ≤ x ∧ x < 256 := putsTo_range l (headR_range _ _) _
theorem bodyR_length (g : Int) (l : List S63) : (bodyR g l).length = 64 := by unfold bodyR; rw [putsTo_length, headR_length]
theorem encR_length (g : Int) (l : List S63) : (encR g l).length = 64 := by unfold encR; rw [putTo_length, bodyR_length]
theorem encR_range (g : Int) (l : List S63) : ∀ x ∈ encR g l, 0 ≤ x ∧ x < 256 := putTo_range _ _ (bodyR_range g l) _
theorem crc_lt {bs : List Int} (h : ∀ x ∈ bs, 0 ≤ x ∧ x < 256) : (4294967295 ^^^ crcTo (bs.take 60) 60) < 4294967296 :=
  Nat.xor_lt_two_pow (n := 32) (by decide) (crcTo_lt (fun x hx => h x (List.mem_of_mem_take hx)) 60)
theorem snap_cells {w : World} {A : Option Addr} {l : List S63} (h : SnapsAt w A l) {k : Nat} (hk : k < l.length) : ∃ ad, A = some ad ∧ w.cell? (ad.add (k * 2)) = some (.int .u64 (l.getD k z63).f0) ∧ w.cell? ⟨(ad.add (k * 2)).block, (ad.add (k * 2)).off + 1, none⟩ = some (.int .i64 (l.getD k z63).f1) := by
  obtain ⟨ad, rfl, hx0, hx1⟩ := PRootReads.at_T63 h (k : Int) (by omega) (by omega)
  rw [rd_at, Int.toNat_natCast] at hx0 hx1
  exact ⟨ad, rfl, hx0, hx1⟩
/-- What holds while a root is written: its box, the bytes' box, the place's box. -/
def EncSt (w : World) (g : Int) (A : Option Addr) (n c gb ga : Nat) (a : Int) (bs : List Int) (W : World) : Prop :=
  W.heap[w.heap.size]? = some (.cells #[.int .u64 g, .slice A n c] 40 (0, 0)) ∧
  (∃ A' c', W.heap[gb]? = some (.cells #[.slice A' 64 c'] 22 (0, 0)) ∧ OwnBytes W w.heap.size (.slice A' 64 c') bs) ∧
  W.heap[ga]? = some (.cells #[.int .i64 a] 3 (0, 0)) ∧ Below w.heap.size w W
theorem put_step {w W : World} {g : Int} {A : Option Addr} {n c gb ga : Nat} {a : Int} {bs : List Int} (st : EncSt w g A n c gb ga a bs W) (hr : ∀ x ∈ bs, 0 ≤ x ∧ x < 256) (hgb : w.heap.size < gb) (hga : w.heap.size < ga)
    (ha0 : 0 ≤ a) (size : Int) (hs0 : 0 ≤ size) (has : a + size ≤ 1000) (z : Int) :
    Calls Try.prog 43 #[.int .i64 size, .int .u64 z, .pointer (some ⟨gb, 0, none⟩), .pointer (some ⟨ga, 0, none⟩)] W fun e W' => e = .returned (.tuple #[]) ∧
      EncSt w g A n c gb ga (a + size) (putTo bs a z (rounds8 size)) W' ∧ ∀ x, x < W.heap.size → x ≠ gb → x ≠ ga → W'.heap[x]? = W.heap[x]? := by
  obtain ⟨h1, ⟨A', c', h2, h3⟩, h4, h5⟩ := st
  refine (put_any gb ga w.heap.size A' 64 c' bs a size z W h2 h4 h3 hr h5.size (by decide) ha0 hs0 has).mono ?_
  rintro e W' ⟨rfl, h6, h7, h8, h9⟩
  exact ⟨rfl, ⟨(h8 _ (blk_lt h1) (by omega) (by omega)).trans h1, h6, h7, h5.trans (h9 _ (by omega) (by omega))⟩, h8⟩
theorem EncSt.alloc {w W : World} {g : Int} {A : Option Addr} {n c gb ga : Nat} {a : Int} {bs : List Int} (st : EncSt w g A n c gb ga a bs W) (o : Obj) : EncSt w g A n c gb ga a bs (W.alloc o) := by
  obtain ⟨h1, ⟨A', c', h2, h3⟩, h4, h5⟩ := st
  exact ⟨blk_alloc h1 _, ⟨A', c', blk_alloc h2 _, h3.alloc _⟩, blk_alloc h4 _, h5.alloc h5.size _⟩
theorem EncSt.seek {w W : World} {g : Int} {A : Option Addr} {n c gb ga : Nat} {a : Int} {bs : List Int} (st : EncSt w g A n c gb ga a bs W) (hgb : gb ≠ ga) (hga : w.heap.size < ga) (a' : Int) :
    EncSt w g A n c gb ga a' bs (W.setCell ⟨ga, 0, none⟩ (.int .i64 a')) := by
  obtain ⟨h1, ⟨A', c', h2, h3⟩, h4, h5⟩ := st
  exact ⟨(heap_set2 _ _ _ _ _ (by omega)).trans h1, ⟨A', c', (heap_set2 _ _ _ _ _ hgb).trans h2, ownFar h3 h4 (by decide) _ _⟩, heap_setCell_same W ga 0 _ 3 _ h4, h5.setCell (by simp; omega) _⟩
set_option maxRecDepth 100000 in
set_option maxHeartbeats 2000000 in
theorem encode_no (g : Int) (A : Option Addr) (c : Nat) (l : List S63) (w : World) (h : SnapsAt w A l) (hc : l.length ≤ c) (hl : l.length ≤ 140737488351232) (hok : ¬ okRoot g l) :
    Calls Try.prog 30 #[.agg #[.int .u64 g, .slice A l.length c]] w fun e w' => e = .returned (.tuple #[.slice none 0 0, .int .i64 1]) ∧ Below w.heap.size w w' := by
  go_enter Try.func30, Try.ntmps30
  go_wp2_with fail
  have hA : Below w.heap.size w (w.alloc (.cells #[.int .u64 g, .slice A l.length c] 40)) := (Below.refl _ _).alloc (Nat.le_refl _) _
  refine (fits_any g A c l _ (h.below hA) hc hl).mono ?_
  rintro e w1 ⟨rfl, hb1⟩
  rw [decide_eq_false hok]
  have hbA : Below w.heap.size w w1 := hA.trans (hb1.mono hA.size)
  clear hA hb1
  go_wp2_with fail
  go_ret2
  exact ⟨rfl, hbA⟩
set_option maxRecDepth 100000 in
set_option maxHeartbeats 2000000 in
theorem encode_yes (g : Int) (A : Option Addr) (c : Nat) (l : List S63) (w : World) (h : SnapsAt w A l) (hc : l.length ≤ c) (hl : l.length ≤ 140737488351232) (hok : okRoot g l) :
    Calls Try.prog 30 #[.agg #[.int .u64 g, .slice A l.length c]] w fun e w' => (∃ A' c', e = .returned (.tuple #[.slice A' 64 c', .int .i64 0]) ∧ OwnBytes w' w.heap.size (.slice A' 64 c') (encR g l)) ∧ Below w.heap.size w w' := by
  have hA : Below w.heap.size w (w.alloc (.cells #[.int .u64 g, .slice A l.length c] 40)) := (Below.refl _ _).alloc (Nat.le_refl _) _
  have hF := (fits_any g A c l _ (h.below hA) hc hl)
  rw [decide_eq_true hok] at hF
  have hmk : ∀ w : World, (Instr.makeSlice 22 (.int .i64 64) (.int .i64 64)).run Try.prog w = .ok (.slice (some ⟨w.heap.size, 0, none⟩) 64 64) (w.alloc (.cells (ints .u8 (nots 64)) 5)) := fun w => make_n 64 (by decide) w
  have hmf : ∀ (fn : Fn) (first cap : Array Value) (w : World), (Instr.makeFunc fn first cap).run Try.prog w = .ok (.func fn first cap) w := fun _ _ _ _ => rfl
  go_enter Try.func30, Try.ntmps30
  go_wp2_with fail
  refine hF.mono ?_
  rintro e w1 ⟨rfl, hb1⟩
  have hR : w1.heap[w.heap.size]? = some (.cells #[.int .u64 g, .slice A l.length c] 40 (0, 0)) := blk_below (heap_alloc_new _ _) hb1 (by simp)
  have hbA : Below w.heap.size w w1 := hA.trans (hb1.mono hA.size)
  have hcR0 : w1.cell? ⟨w.heap.size, 0, none⟩ = some (.int .u64 g) := cell_of_row w1 _ 0 _ _ _ hR
  have hcR1 : w1.cell? ⟨w.heap.size, 1, none⟩ = some (.slice A l.length c) := cell_of_row w1 _ 1 _ _ _ hR
  clear hA hb1 hF
  go_wp2_with fail
  have hS : EncSt w g A l.length c (w1.heap.size + 1) (w1.heap.size + 1 + 1) 0 (nots 64) (((w1.alloc (.cells (ints .u8 (nots 64)) 5)).alloc (.cells #[.slice (some ⟨w1.heap.size, 0, none⟩) 64 64] 22)).alloc (.cells #[.int .i64 0] 3)) :=
    ⟨blk_alloc (blk_alloc (blk_alloc hR _) _) _, ⟨_, _, blk_alloc (blk_new _ _ (by simp)) _, ((OwnBytes.of_blk (L := nots 64) (heap_alloc_new _ _) hbA.size (by simp [nots])).alloc _).alloc _⟩, blk_new _ _ (by simp),
      ((hbA.alloc hbA.size _).alloc (by simp; have := hbA.size; omega) _).alloc (by simp; have := hbA.size; omega) _⟩
  have hge := hbA.size
  have hgb : w.heap.size < w1.heap.size + 1 := by omega
  have hga : w.heap.size < w1.heap.size + 1 + 1 := by omega
  clear hR hbA hcR0 hcR1
  generalize ((w1.alloc (.cells (ints .u8 (nots 64)) 5)).alloc (.cells #[.slice (some ⟨w1.heap.size, 0, none⟩) 64 64] 22)).alloc (.cells #[.int .i64 0] 3) = W1 at hS ⊢
  generalize w1.heap.size + 1 + 1 = ga at hS hga ⊢
  generalize w1.heap.size + 1 = gb at hS hgb ⊢
  refine (put_step hS (nots_range 64) hgb hga (by omega) 4 (by omega) (by omega) 1280459075).mono ?_
  rintro e W2 ⟨rfl, hS2, -⟩
  have hcR : W2.cell? ⟨w.heap.size, 0, none⟩ = some (.int .u64 g) := cell_of_row W2 _ 0 _ _ _ hS2.1
  have HS2 := Lib.hid hS2
  clear hS hS2
  go_wp2_with fail
  refine (put_step HS2.out (putTo_range _ _ (nots_range 64) _) hgb hga (by omega) 8 (by omega) (by omega) g).mono ?_
  rintro e W3 ⟨rfl, hS3, -⟩
  have hcR1 : W3.cell? ⟨w.heap.size, 1, none⟩ = some (.slice A l.length c) := cell_of_row W3 _ 1 _ _ _ hS3.1
  have hwl : IntKind.u64.wrap (l.length : Int) = (l.length : Int) := u64_of (by omega) (by omega)
  have HS3 := Lib.hid hS3
  clear hcR hS3
  go_wp2_with fail
  refine (put_step HS3.out (putTo_range _ _ (putTo_range _ _ (nots_range 64) _) _) hgb hga (by omega) 2 (by omega) (by omega) _).mono ?_
  rintro e W4 ⟨rfl, hS4, -⟩
  have hcR1 : W4.cell? ⟨w.heap.size, 1, none⟩ = some (.slice A l.length c) := cell_of_row W4 _ 1 _ _ _ hS4.1
  change EncSt w g A l.length c gb ga 14 (headR g l.length) W4 at hS4
  have HS4 := Lib.hid hS4
  clear HS2 HS3 hS4
  go_wp2_with fail
  go_loopw [29] (fun i wr => ∃ k : Nat, k ≤ l.length ∧ i = .int .i64 k ∧ EncSt w g A l.length c gb ga ((14 + 10 * k : Nat) : Int) (putsTo l (headR g l.length) k) wr) (fun i _ => l.length - (intOf i).toNat)
  case atStart => exact ⟨0, Nat.zero_le _, rfl, HS4.out⟩
  case round =>
    obtain ⟨k, hk, rfl, hS⟩ := hrel
    clear HS4 hcR1
    by_cases hlt : k < l.length
    · have hl4 := hok.2.1
      have hsn := hok.2.2 k hlt
      have hnx : wrap64 ((k : Int) + 1) = ((k + 1 : Nat) : Int) := by rw [wrap64_of] <;> omega
      have i1 : (k : Int) < (l.length : Int) := Int.ofNat_lt.2 hlt
      obtain ⟨ad, rfl, hx0, hx1⟩ := snap_cells (h.below hS.2.2.2) hlt
      obtain ⟨t0, -, t2, -, -⟩ := hsn
      have hput : putsTo l (headR g l.length) (k + 1) = putTo (putTo (putsTo l (headR g l.length) k) ((14 + 10 * k : Nat) : Int) (l.getD k z63).f0 8) ((22 + 10 * k : Nat) : Int) (l.getD k z63).f1 2 := rfl
      generalize hx : l.getD k z63 = x at *
      have hwt : IntKind.u64.wrap x.f1 = x.f1 := u64_of t0 (by omega)
      have HS := Lib.hid hS
      have Hput := Lib.hid hput
      clear hS hput
      go_wp2_with fail
      refine (put_step (HS.out.alloc _) (putsTo_range l (headR_range g _) k) hgb hga (by omega) 8 (by omega) (by omega) x.f0).mono ?_
      rintro e W5 ⟨rfl, hS5, hk5⟩
      have hbx : W5.heap[wr.heap.size]? = some (.cells #[.int .u64 x.f0, .int .i64 x.f1] 63 (0, 0)) :=
        (hk5 _ (by simp) (fun e => by obtain ⟨_, _, h2, _⟩ := HS.out.2.1; have := blk_lt h2; omega) (fun e => by have := blk_lt HS.out.2.2.1; omega)).trans (heap_alloc_new _ _)
      have hc1 : W5.cell? ⟨wr.heap.size, 1, none⟩ = some (.int .i64 x.f1) := cell_of_row W5 _ 1 _ _ _ hbx
      have e1 : ((14 + 10 * k : Nat) : Int) + 8 = ((22 + 10 * k : Nat) : Int) := by omega
      rw [e1] at hS5
      have HS5 := Lib.hid hS5
      clear hS5 hk5 hbx
      go_wp2_with fail
      refine (put_step HS5.out (putTo_range _ _ (putsTo_range l (headR_range g _) k) _) hgb hga (by omega) 2 (by omega) (by omega) x.f1).mono ?_
      rintro e W6 ⟨rfl, hS6, -⟩
      have e2 : ((22 + 10 * k : Nat) : Int) + 2 = ((14 + 10 * (k + 1) : Nat) : Int) := by omega
      rw [e2] at hS6
      have hms : l.length - (k + 1) < l.length - k := Nat.sub_lt_sub_left hlt (Nat.lt_succ_self k)
      have HS6 := Lib.hid hS6
      clear hS6 HS5
      go_wp2_with fail
      go_roundw
      case rel => exact ⟨k + 1, hlt, by first | rfl | rw [hnx], by rw [Hput.out]; exact HS6.out⟩
      case measure => first | exact hms | (rw [hnx]; exact hms)
    · obtain rfl : k = l.length := by omega
      have i1 : ¬ (l.length : Int) < (l.length : Int) := by omega
      have hne : gb ≠ ga := fun e => by
        obtain ⟨_, _, h2, _⟩ := hS.2.1
        have h4 := hS.2.2.1
        subst e
        rw [h2] at h4
        injection h4 with h4
        injection h4 with _ e2 _
        revert e2; decide
      have hfa := frozen_blk hS.2.2.1 0
      have hca := cell_one hS.2.2.1
      have hS7 := hS.seek hne hga 60
      obtain ⟨A7, c7, hb7, ho7⟩ := hS7.2.1
      have hcb7 := cell_one hb7
      have ho8 := ho7.cap
      have hs60 : (60 : Nat) ≤ 64 := by decide
      have HS7 := Lib.hid hS7
      have HO7 := Lib.hid ho7
      clear hS hS7 hb7 ho7
      generalize hW7 : wr.setCell ⟨ga, 0, none⟩ (.int .i64 60) = W7 at *
      go_wp2_with fail
      have hlen7 : (putsTo l (headR g l.length) l.length).length = 64 := bodyR_length g l
      refine (crc_any A7 60 c7 ((bodyR g l).take 60) _ W7 (BytesAt.take (HO7.out.at_ (bodyR_range g l)) hs60) (by decide)).mono ?_
      rintro e W8 ⟨rfl, rfl⟩
      have hC : (4294967295 ^^^ crcTo ((bodyR g l).take 60) 60) < 4294967296 := crc_lt (bodyR_range g l)
      have hdef : encR g l = putTo (putsTo l (headR g l.length) l.length) 60 ((4294967295 ^^^ crcTo ((bodyR g l).take 60) 60 : Nat) : Int) 4 := rfl
      have Hdef := Lib.hid hdef
      clear hdef
      generalize 4294967295 ^^^ crcTo ((bodyR g l).take 60) 60 = C at hC Hdef ⊢
      have hwC : IntKind.u64.wrap (C : Int) = (C : Int) := u64_of (by omega) (by omega)
      go_wp2_with fail
      refine (put_step HS7.out (bodyR_range g l) hgb hga (by omega) 4 (by omega) (by omega) (C : Int)).mono ?_
      rintro e W9 ⟨rfl, hS9, -⟩
      obtain ⟨A9, c9, hb9, ho9⟩ := hS9.2.1
      have hcb9 := cell_one hb9
      have hbe := hS9.2.2.2
      have HO9 := Lib.hid ho9
      clear hcb7 hb9 ho9 hS9
      go_wp2_with fail
      go_ret2
      exact ⟨⟨A9, c9, rfl, by rw [Hdef.out]; exact HO9.out⟩, hbe⟩
end Go.Proofs.Ytghpnhiliihlaaa.Root
