/-
  NodeBack: the law's walk: the Go text returns true for every node and every page, and writes nothing that was there.
-/
import Derived.Test.YtijlhdcebfglnaaBytes
import Derived.Test.YtijlhdcebfglnaaLeMath
namespace Go.Proofs.Ytijlhdcebfglnaa
open Go.RowKit

theorem encTo_at (xs : List Int) (i : Nat) : ∀ k, i < k → ((encTo xs k).drop (2 * i)).take 2 = enc2 (xs[i]?.getD 0)
  | 0, h => by omega
  | k + 1, h => by
    have hl := encTo_length xs k
    rw [encTo]
    rcases Nat.lt_or_ge i k with h1 | h1
    · rw [List.drop_append_of_le_length (by omega), List.take_append_of_le_length (by rw [List.length_drop]; omega)]
      exact encTo_at xs i k h1
    · obtain rfl : i = k := by omega
      rw [List.drop_append, List.drop_of_length_le (by omega), List.nil_append, hl, Nat.sub_self, List.drop_zero]
      rfl
theorem decI_enc {xs : List Int} (hf : Fits xs 32) (i : Nat) (hi : i < 32) : decI (encTo xs 32) i = xs[i]?.getD 0 := by
  have h1 := hf.2.1 i hi
  unfold decI
  have h2 := numTo_val (bs := encTo xs 32) (encTo_range xs 32) (2 * i) 2 (by omega) (by rw [encTo_length]; omega)
  rw [show ((2 * i : Nat) : Int) = 2 * (i : Int) by omega] at h2
  rw [rounds8_2, h2, encTo_at xs i 32 hi]
  simp only [enc2, leOf, byteOf_val]
  rw [wrap64_of] <;> omega
theorem decTo_enc {xs : List Int} (hs : xs.length = 32) (hf : Fits xs 32) : ∀ k, k ≤ 32 → decTo (encTo xs 32) k = xs.take k ++ zeros.drop k
  | 0, _ => by simp [decTo]
  | k + 1, h => by
    have ih := decTo_enc hs hf k (by omega)
    have hk : k < xs.length := by omega
    have hz : zeros.drop k = 0 :: zeros.drop (k + 1) := by
      rw [List.drop_eq_getElem_cons (by rw [zeros_length]; omega)]
      have : zeros[k]'(by rw [zeros_length]; omega) = 0 := by unfold zeros; exact List.getElem_replicate _
      rw [this]
    have ht : (xs.take k).length = k := by simp; omega
    have hx : xs.take (k + 1) = xs.take k ++ [xs[k]] := by rw [List.take_succ_eq_append_getElem hk]
    rw [decTo, ih, decI_enc hf k (by omega), hx, hz, List.set_append_right _ _ (by omega), ht, Nat.sub_self, List.set_cons_zero, List.append_assoc]
    simp [hk]
theorem decAll_enc {xs : List Int} (hs : xs.length = 32) (hf : Fits xs 32) : decAll 64 (encTo xs 32) = xs := by
  unfold decAll
  rw [if_pos rfl, decTo_enc hs hf 32 (by omega), List.take_of_length_le (by omega), List.drop_of_length_le (by rw [zeros_length]; omega), List.append_nil]
theorem back_page {n : Int} (h : ¬ (n < 0 ∨ 128 ≤ n)) : pE n = 0 ∧ qP (pA n) (pB n) = n ∧ qE (pA n) (pB n) = 0 := by
  obtain ⟨h1, h2, h3⟩ := pAll_in h
  obtain ⟨h4, h5⟩ := qAll_in (t := n / 32) (l := n % 32) (by omega)
  rw [h1, h2, h3, h4, h5]
  exact ⟨rfl, by omega, rfl⟩
theorem encN_32 : encN 32 = 64 := rfl
theorem encE_32 : encE 32 = 0 := rfl
theorem encL_32 (xs : List Int) : encL xs 32 = encTo xs 32 := rfl
theorem encE_no {m : Nat} (h : m ≠ 32) : encE m = 1 := if_neg h

set_option maxHeartbeats 1000000 in
theorem back_any (xs : List Int) (hs : xs.length = 32) (page : Int) (w : World) :
    Calls Try.prog 7 #[.agg (ints .i64 xs), .int .i64 page] w fun e w' => e = .returned (.bool true) ∧ Below w.heap.size w w' := by
  obtain ⟨m, hm⟩ := fits_some xs
  have hz := zeroValue34
  have hzl := zeros_lit'
  have heq := eq34_same xs hs
  go_enter Try.func7, Try.ntmps7
  go_wp2_with (first
    | (go_at_call 8; refine (awake_any _).mono ?_; rintro e w' ⟨rfl, rfl⟩)
    | (refine wpL_load rfl 34 (.tmp 2) rfl _ rfl 34 (ints .i64 xs) (0, 0) _ (heap_alloc_new _ _) Try.underlying34 rfl (size34_of hs) ?_))
  refine (encode_all xs hs m hm _).mono ?_
  rintro e1 w1 ⟨A1, c1, rfl, ho1, hb1⟩
  have hbox := heap_alloc_new w (.cells (ints .i64 xs) 34)
  have hb0 : Below w.heap.size w (w.alloc (.cells (ints .i64 xs) 34)) := (Below.refl _ _).alloc (Nat.le_refl _) _
  generalize hw0 : w.alloc (.cells (ints .i64 xs) 34) = w0 at *
  clear hw0
  have hbox1 := Lib.hid (blk_below hbox hb1 (blk_lt hbox))
  have hbA : Below w.heap.size w w1 := hb0.trans (hb1.mono hb0.size)
  clear hbox
  by_cases hm32 : m = 32
  · subst hm32
    rw [encN_32, encE_32, encL_32] at *
    go_wp2_with fail
    refine (decode_all A1 64 c1 (encTo xs 32) w1 (ho1.at_ (encTo_range xs 32))).mono ?_
    rintro e2 w2 ⟨rfl, hb2⟩
    rw [decAll_enc hs hm, show decErr 64 = 0 from rfl]
    have hbox2 := Lib.hid (blk_below hbox1.out hb2 (blk_lt hbox1.out))
    have hbB : Below w.heap.size w w2 := hbA.trans (hb2.mono hbA.size)
    by_cases hp : page < 0 ∨ 128 ≤ page
    · have hpe := (pAll_out hp).2.2
      rcases hp with hp | hp
      all_goals
        go_wp2_with (first
          | (refine wpL_store rfl 34 (.tmp 7) _ rfl _ (ints .i64 xs) rfl rfl 34 (ints .i64 zeros) (heap_alloc_new _ _) (size34_of hs) (by rw [ints_size, ints_size, hs]; rfl) (ints_one _ _) ?_; rw [setRow_last _ _ _ _ _ rfl])
          | (refine wpL_load rfl 34 (.tmp 7) rfl _ rfl 34 (ints .i64 xs) (0, 0) _ (heap_alloc_new _ _) Try.underlying34 rfl (size34_of hs) ?_)
          | (refine wpL_load rfl 34 (.tmp 2) rfl _ rfl 34 (ints .i64 xs) (0, 0) _ (blk_alloc hbox2.out _) Try.underlying34 rfl (size34_of hs) ?_)
          | (go_at_call 9; refine (path_any _ _).mono ?_; rintro e w' ⟨rfl, rfl⟩)
          | (go_at_call 11; refine (page_any _ _ _).mono ?_; rintro e w' ⟨rfl, rfl⟩))
        go_ret
        exact ⟨rfl, hbB.alloc hbB.size _⟩
    · obtain ⟨hpe, hq, hqe⟩ := back_page hp
      clear hp
      go_wp2_with (first
          | (refine wpL_store rfl 34 (.tmp 7) _ rfl _ (ints .i64 xs) rfl rfl 34 (ints .i64 zeros) (heap_alloc_new _ _) (size34_of hs) (by rw [ints_size, ints_size, hs]; rfl) (ints_one _ _) ?_; rw [setRow_last _ _ _ _ _ rfl])
          | (refine wpL_load rfl 34 (.tmp 7) rfl _ rfl 34 (ints .i64 xs) (0, 0) _ (heap_alloc_new _ _) Try.underlying34 rfl (size34_of hs) ?_)
          | (refine wpL_load rfl 34 (.tmp 2) rfl _ rfl 34 (ints .i64 xs) (0, 0) _ (blk_alloc hbox2.out _) Try.underlying34 rfl (size34_of hs) ?_)
          | (go_at_call 9; refine (path_any _ _).mono ?_; rintro e w' ⟨rfl, rfl⟩)
          | (go_at_call 11; refine (page_any _ _ _).mono ?_; rintro e w' ⟨rfl, rfl⟩))
      go_ret
      exact ⟨rfl, hbB.alloc hbB.size _⟩
  · have hee := encE_no hm32
    by_cases hp : page < 0 ∨ 128 ≤ page
    · have hpe := (pAll_out hp).2.2
      rcases hp with hp | hp
      all_goals
        go_wp2_with (first
          | (go_at_call 9; refine (path_any _ _).mono ?_; rintro e w' ⟨rfl, rfl⟩)
          | (go_at_call 11; refine (page_any _ _ _).mono ?_; rintro e w' ⟨rfl, rfl⟩))
        go_ret
        exact ⟨rfl, hbA⟩
    · obtain ⟨hpe, hq, hqe⟩ := back_page hp
      clear hp
      go_wp2_with (first
          | (go_at_call 9; refine (path_any _ _).mono ?_; rintro e w' ⟨rfl, rfl⟩)
          | (go_at_call 11; refine (page_any _ _ _).mono ?_; rintro e w' ⟨rfl, rfl⟩))
      go_ret
      exact ⟨rfl, hbA⟩
theorem nodeBack_walk (W : World) {H : Type} {enc : TypeId × Value → H} {base : Nat} {d : DataW H} {p : List MemPlace} (v : Value)
    (hok : Value.okWide Try.prog W .any base 34 v) (ht : DataW.Trod enc Try.prog W 0 (fun _ => true) true 34 v d p) (k : Int) (_ : (Lit.int .i64 k).wf = true) :
    Calls Try.prog 7 #[v, .int .i64 k] W fun e W' => e = .returned (.bool true) ∧ Below W.heap.size W W' := by
  obtain ⟨xs, rfl, hs, _⟩ := open_arr Try.underlying34 Try.underlying3 (by kernel_rfl) (by kernel_rfl) hok ht
  exact back_any xs hs k W
end Go.Proofs.Ytijlhdcebfglnaa
