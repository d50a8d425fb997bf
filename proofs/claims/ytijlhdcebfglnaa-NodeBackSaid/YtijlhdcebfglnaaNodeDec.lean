/-
  node.Decode and its reference: what they compute, for every text.
-/
import Derived.Test.YtijlhdcebfglnaaNodeEnc
namespace Go.Proofs.Ytijlhdcebfglnaa
open Go.RowKit
theorem zeros_lit' : (#[.int .i64 0, .int .i64 0, .int .i64 0, .int .i64 0, .int .i64 0, .int .i64 0, .int .i64 0, .int .i64 0, .int .i64 0, .int .i64 0, .int .i64 0, .int .i64 0, .int .i64 0, .int .i64 0, .int .i64 0, .int .i64 0, .int .i64 0, .int .i64 0, .int .i64 0, .int .i64 0, .int .i64 0, .int .i64 0, .int .i64 0, .int .i64 0, .int .i64 0, .int .i64 0, .int .i64 0, .int .i64 0, .int .i64 0, .int .i64 0, .int .i64 0, .int .i64 0] : Array Value) = ints .i64 zeros := rfl
def decI (bs : List Int) (i : Nat) : Int := wrap64 (numTo bs (2 * (i : Int)) (rounds8 2))
def decTo (bs : List Int) : Nat → List Int
  | 0 => zeros
  | k + 1 => (decTo bs k).set k (decI bs k)
theorem decTo_length (bs : List Int) : ∀ k, (decTo bs k).length = 32
  | 0 => rfl
  | k + 1 => by rw [decTo, List.length_set, decTo_length bs k]
theorem below_row {B g : Nat} {w0 w : World} (hb : Below B w0 w) (hB : B ≤ g) (cs : Array Value) : Below B w0 (w.setRow g cs) :=
  ⟨hb.os, hb.tape, hb.output, by rw [size_setRow]; exact hb.size, fun k hk => (setRow_other w g k cs (by omega)).trans (hb.block k hk)⟩
set_option maxHeartbeats 1000000 in
theorem decode_bad (A : Option Addr) (n c : Nat) (hn : n ≠ 64) (w : World) :
    Calls Try.prog 17 #[.slice A n c] w fun e w' => e = .returned (.tuple #[.agg (ints .i64 zeros), .int .i64 1]) ∧ Below w.heap.size w w' := by
  have hz := zeroValue34
  have hb := build34
  have hzl := zeros_lit'
  have hne : ((n : Int) != 64) = true := by rw [bne_iff_ne]; omega
  have hne2 : ((n : Int) == 64) = false := by rw [beq_eq_false_iff_ne]; omega
  go_enter Try.func17, Try.ntmps17
  go_wp2_with (first
    | (refine wpL_store rfl 34 (.tmp 4) _ rfl _ (ints .i64 zeros) rfl rfl 34 (ints .i64 zeros) (heap_alloc2_new _ _ _) (size34_of rfl) rfl (ints_one _ _) ?_; rw [setRow_last _ _ _ _ _ (by simp)])
    | (refine wpL_load rfl 34 (.tmp 4) rfl _ rfl 34 (ints .i64 zeros) (0, 0) _ (heap_alloc2_new _ _ _) Try.underlying34 rfl (size34_of rfl) ?_)
    | (refine wpL_store rfl 34 (.tmp 2) _ rfl _ (ints .i64 zeros) rfl rfl 34 (ints .i64 zeros) (heap_alloc2_old _ _ _) (size34_of rfl) rfl (ints_one _ _) ?_))
  refine bodyPost_ret (results_row_tmp _ rfl _ _ 34 (ints .i64 zeros) (0, 0) _ rfl (setRow_heap _ _ _ _ _ _ (heap_alloc2_old _ _ _)) Try.underlying34 rfl (size34_of rfl)) rfl ?_
  exact ⟨rfl, below_row (((Below.refl _ _).alloc (Nat.le_refl _) _).alloc (by simp) _) (Nat.le_refl _) _⟩
set_option maxHeartbeats 1000000 in
theorem decode_ok (A : Option Addr) (c : Nat) (bs : List Int) (w : World) (hbs : BytesAt w w.heap.size A 64 bs) :
    Calls Try.prog 17 #[.slice A 64 c] w fun e w' => e = .returned (.tuple #[.agg (ints .i64 (decTo bs 32)), .int .i64 0]) ∧ Below w.heap.size w w' := by
  have hz := zeroValue34
  have hb := build34
  have hzl := zeros_lit'
  go_enter Try.func17, Try.ntmps17
  go_wp2_with (first
    | (refine wpL_store rfl 34 (.tmp 4) _ rfl _ (ints .i64 zeros) rfl rfl 34 (ints .i64 zeros) (heap_alloc2_new _ _ _) (size34_of rfl) rfl (ints_one _ _) ?_; rw [setRow_last _ _ _ _ _ (by simp)]))
  clear hz hb
  have Hzl := Lib.hid hzl
  clear hzl
  go_loopw [11] (fun i wr => ∃ k : Nat, k ≤ 32 ∧ i = .int .i64 k ∧ Hid (wr.heap[w.heap.size]? = some (.cells (ints .i64 zeros) 34 (0, 0))) ∧ Hid (wr.heap[w.heap.size + 1]? = some (.cells (ints .i64 (decTo bs k)) 34 (0, 0))) ∧ Below w.heap.size w wr)
    (fun i _ => 32 - (intOf i).toNat)
  case atStart => exact ⟨0, by omega, rfl, heap_alloc2_old _ _ _, heap_alloc2_new _ _ _, ((Below.refl _ _).alloc (Nat.le_refl _) _).alloc (by simp) _⟩
  case round =>
    obtain ⟨k, hk, rfl, h1, h2, hb⟩ := hrel
    by_cases hlt : k < 32
    · go_wp2_with fail
      refine (num_any A 64 c bs (2 * (k : Int)) 2 (by omega) (by omega) (by omega) _ ((hbs.below hb).more hb.size)).mono ?_
      rintro e w1 ⟨rfl, hb1⟩
      have h11 := Lib.hid (blk_below h1.out hb1 (blk_lt h1.out))
      have h21 := blk_below h2.out hb1 (blk_lt h2.out)
      have hc := cell_blk h21 k (by rw [decTo_length]; exact hlt)
      have hf := frozen_blk h21 k
      have H21 := Lib.hid h21
      have Hdec := Lib.hid (show decTo bs (k + 1) = (decTo bs k).set k (decI bs k) from rfl)
      have hdi : wrap64 (numTo bs (2 * (k : Int)) (rounds8 2)) = decI bs k := rfl
      clear h21
      go_wp2_with fail
      go_roundw
      case rel =>
        refine ⟨k + 1, by omega, by go_num, blk_far h11.out (by simp) _, ?_, (hb.trans (hb1.mono hb.size)).setCell (by simp) _⟩
        rw [Hdec.out]
        exact blk_set H21.out k _
      case measure => simp [intOf]; omega
    · have hk' : k = 32 := by omega
      subst hk'
      go_wp2_with (first
        | (refine wpL_load rfl 34 (.tmp 4) rfl _ rfl 34 (ints .i64 (decTo bs 32)) (0, 0) _ h2.out Try.underlying34 rfl (size34_of (decTo_length bs 32)) ?_)
        | (refine wpL_store rfl 34 (.tmp 2) _ rfl _ (ints .i64 (decTo bs 32)) rfl rfl 34 (ints .i64 zeros) h1.out (size34_of (decTo_length bs 32)) (by rw [ints_size, ints_size, decTo_length]; rfl) (ints_one _ _) ?_))
      refine bodyPost_ret (results_row_tmp _ rfl _ _ 34 (ints .i64 (decTo bs 32)) (0, 0) _ rfl (setRow_heap _ _ _ _ _ _ h1.out) Try.underlying34 rfl (size34_of (decTo_length bs 32))) rfl ?_
      exact ⟨rfl, below_row hb (Nat.le_refl _) _⟩
set_option maxHeartbeats 1000000 in
theorem rdecode_bad (A : Option Addr) (n c : Nat) (hn : n ≠ 64) (w : World) :
    Calls Try.prog 18 #[.slice A n c] w fun e w' => e = .returned (.tuple #[.agg (ints .i64 zeros), .int .i64 1]) ∧ Below w.heap.size w w' := by
  have hz := zeroValue34
  have hb := build34
  have hzl := zeros_lit'
  have hne : ((n : Int) != 64) = true := by rw [bne_iff_ne]; omega
  have hne2 : ((n : Int) == 64) = false := by rw [beq_eq_false_iff_ne]; omega
  go_enter Try.func18, Try.ntmps18
  go_wp2_with (first
    | (refine wpL_store rfl 34 (.tmp 4) _ rfl _ (ints .i64 zeros) rfl rfl 34 (ints .i64 zeros) (heap_alloc2_new _ _ _) (size34_of rfl) rfl (ints_one _ _) ?_; rw [setRow_last _ _ _ _ _ (by simp)])
    | (refine wpL_load rfl 34 (.tmp 4) rfl _ rfl 34 (ints .i64 zeros) (0, 0) _ (heap_alloc2_new _ _ _) Try.underlying34 rfl (size34_of rfl) ?_)
    | (refine wpL_store rfl 34 (.tmp 2) _ rfl _ (ints .i64 zeros) rfl rfl 34 (ints .i64 zeros) (heap_alloc2_old _ _ _) (size34_of rfl) rfl (ints_one _ _) ?_))
  refine bodyPost_ret (results_row_tmp _ rfl _ _ 34 (ints .i64 zeros) (0, 0) _ rfl (setRow_heap _ _ _ _ _ _ (heap_alloc2_old _ _ _)) Try.underlying34 rfl (size34_of rfl)) rfl ?_
  exact ⟨rfl, below_row (((Below.refl _ _).alloc (Nat.le_refl _) _).alloc (by simp) _) (Nat.le_refl _) _⟩
set_option maxHeartbeats 1000000 in
theorem rdecode_ok (A : Option Addr) (c : Nat) (bs : List Int) (w : World) (hbs : BytesAt w w.heap.size A 64 bs) :
    Calls Try.prog 18 #[.slice A 64 c] w fun e w' => e = .returned (.tuple #[.agg (ints .i64 (decTo bs 32)), .int .i64 0]) ∧ Below w.heap.size w w' := by
  have hz := zeroValue34
  have hb := build34
  have hzl := zeros_lit'
  go_enter Try.func18, Try.ntmps18
  go_wp2_with (first
    | (refine wpL_store rfl 34 (.tmp 4) _ rfl _ (ints .i64 zeros) rfl rfl 34 (ints .i64 zeros) (heap_alloc2_new _ _ _) (size34_of rfl) rfl (ints_one _ _) ?_; rw [setRow_last _ _ _ _ _ (by simp)]))
  clear hz hb
  have Hzl := Lib.hid hzl
  clear hzl
  go_loopw [5] (fun i wr => ∃ k : Nat, k ≤ 32 ∧ i = .int .i64 k ∧ Hid (wr.heap[w.heap.size]? = some (.cells (ints .i64 zeros) 34 (0, 0))) ∧ Hid (wr.heap[w.heap.size + 1]? = some (.cells (ints .i64 (decTo bs k)) 34 (0, 0))) ∧ Below w.heap.size w wr)
    (fun i _ => 32 - (intOf i).toNat)
  case atStart => exact ⟨0, by omega, rfl, heap_alloc2_old _ _ _, heap_alloc2_new _ _ _, ((Below.refl _ _).alloc (Nat.le_refl _) _).alloc (by simp) _⟩
  case round =>
    obtain ⟨k, hk, rfl, h1, h2, hb⟩ := hrel
    by_cases hlt : k < 32
    · go_wp2_with fail
      refine (rnum_any A 64 c bs (2 * (k : Int)) 2 (by omega) (by omega) (by omega) _ ((hbs.below hb).more hb.size)).mono ?_
      rintro e w1 ⟨rfl, rfl⟩
      have hb1 := Below.refl wr.heap.size wr
      have h11 := Lib.hid (blk_below h1.out hb1 (blk_lt h1.out))
      have h21 := blk_below h2.out hb1 (blk_lt h2.out)
      have hc := cell_blk h21 k (by rw [decTo_length]; exact hlt)
      have hf := frozen_blk h21 k
      have H21 := Lib.hid h21
      have Hdec := Lib.hid (show decTo bs (k + 1) = (decTo bs k).set k (decI bs k) from rfl)
      have hdi : wrap64 (numTo bs (2 * (k : Int)) (rounds8 2)) = decI bs k := rfl
      clear h21
      go_wp2_with fail
      go_roundw
      case rel =>
        refine ⟨k + 1, by omega, by go_num, blk_far h11.out (by simp) _, ?_, (hb.trans (hb1.mono hb.size)).setCell (by simp) _⟩
        rw [Hdec.out]
        exact blk_set H21.out k _
      case measure => simp [intOf]; omega
    · have hk' : k = 32 := by omega
      subst hk'
      go_wp2_with (first
        | (refine wpL_load rfl 34 (.tmp 4) rfl _ rfl 34 (ints .i64 (decTo bs 32)) (0, 0) _ h2.out Try.underlying34 rfl (size34_of (decTo_length bs 32)) ?_)
        | (refine wpL_store rfl 34 (.tmp 2) _ rfl _ (ints .i64 (decTo bs 32)) rfl rfl 34 (ints .i64 zeros) h1.out (size34_of (decTo_length bs 32)) (by rw [ints_size, ints_size, decTo_length]; rfl) (ints_one _ _) ?_))
      refine bodyPost_ret (results_row_tmp _ rfl _ _ 34 (ints .i64 (decTo bs 32)) (0, 0) _ rfl (setRow_heap _ _ _ _ _ _ h1.out) Try.underlying34 rfl (size34_of (decTo_length bs 32))) rfl ?_
      exact ⟨rfl, below_row hb (Nat.le_refl _) _⟩
end Go.Proofs.Ytijlhdcebfglnaa
