import Derived.Test.YtpllifppjlakpaaMix
import Derived.StillTailTactics
namespace Go.Proofs.Ytpllifppjlakpaa
set_option linter.unusedVariables false
set_option linter.unusedSimpArgs false
open Go.RowKit

theorem mix_f0 (A A' : Option Addr) (n n' c c' : Nat) (a b : List Int) (cut : Int) (w : World) (ha : BytesAt w w.heap.size A n a) (hb : BytesAt w w.heap.size A' n' b) (hnc : n ≤ c) (hc : c ≤ 9223372036854775807) (hn : n ≤ 140737488351232) (hn' : n' ≤ 140737488351232) (s0 : cut < 0) :
    Calls Try.prog 29 #[.slice A n c, .slice A' n' c', .int .i64 cut, .bool false] w fun e w' =>
      (∃ A2 c2, e = .returned (.slice A2 n c2) ∧ OwnBytes w' w.heap.size (.slice A2 n c2) (mixOf a b 0 false)) ∧ Below w.heap.size w w' := by
  have hmk := make_n n hn
  go_enter Try.func29, Try.ntmps29
  go_wp2_with (refine wpL_copy rfl (.tmp 18) (.tmp 19) rfl (some ⟨w.heap.size, 0, none⟩) n n rfl A' n' c' rfl w.heap.size b (hb.keep fun p hp => World.cell?_alloc_lt w _ p hp) w.heap.size 0 (nots n) (heap_alloc_new _ _) (fun _ => rfl) (by simp [nots]; omega) w.heap.size w ((Below.refl _ _).alloc (Nat.le_refl _) _) (Nat.le_refl _) ?_; intro w1 hg1 hb1; rw [pad_splice] at hg1)
  go_still_tail 6, (by kernel_rfl)
  change wpList _ _ _ _ _ w1.drew
  have hb1d := hb1.drew
  have hg1d : w1.drew.heap[w.heap.size]? = _ := hg1.out
  have had := (ha.below hb1d)
  generalize w1.drew = w1d at hb1d hg1d had ⊢
  refine wpL_copy rfl (.tmp 29) (.tmp 32) rfl (some ⟨w.heap.size, 0, none⟩) n n rfl A n c rfl w.heap.size a had w.heap.size 0 (padTo n b) hg1d (fun _ => rfl) (by rw [padTo_length]; omega) w.heap.size w hb1d (Nat.le_refl _) ?_
  intro w2 hg2 hb2
  rw [mix_tail0 had.1] at hg2
  go_wp2
  all_goals (go_ret; refine ⟨⟨_, _, rfl, ?_⟩, hb2⟩; have ho := OwnBytes.of_blk hg2.out (Nat.le_refl _) (by rw [mixOf_length (by rw [ha.1]; omega), ha.1]; omega); rw [mixOf_length (by rw [ha.1]; omega), ha.1] at ho; exact ho)

theorem mix_f1 (A A' : Option Addr) (n n' c c' : Nat) (a b : List Int) (cut : Nat) (w : World) (ha : BytesAt w w.heap.size A n a) (hb : BytesAt w w.heap.size A' n' b) (hnc : n ≤ c) (hc : c ≤ 9223372036854775807) (hn : n ≤ 140737488351232) (hn' : n' ≤ 140737488351232) (s1 : cut ≤ n) :
    Calls Try.prog 29 #[.slice A n c, .slice A' n' c', .int .i64 (cut : Int), .bool false] w fun e w' =>
      (∃ A2 c2, e = .returned (.slice A2 n c2) ∧ OwnBytes w' w.heap.size (.slice A2 n c2) (mixOf a b cut false)) ∧ Below w.heap.size w w' := by
  have hmk := make_n n hn
  go_enter Try.func29, Try.ntmps29
  go_wp2_with (refine wpL_copy rfl (.tmp 18) (.tmp 19) rfl (some ⟨w.heap.size, 0, none⟩) n n rfl A' n' c' rfl w.heap.size b (hb.keep fun p hp => World.cell?_alloc_lt w _ p hp) w.heap.size 0 (nots n) (heap_alloc_new _ _) (fun _ => rfl) (by simp [nots]; omega) w.heap.size w ((Below.refl _ _).alloc (Nat.le_refl _) _) (Nat.le_refl _) ?_; intro w1 hg1 hb1; rw [pad_splice] at hg1)
  go_still_tail 6, (by kernel_rfl)
  change wpList _ _ _ _ _ w1.drew
  have hb1d := hb1.drew
  have hg1d : w1.drew.heap[w.heap.size]? = _ := hg1.out
  have had := (ha.below hb1d)
  generalize w1.drew = w1d at hb1d hg1d had ⊢
  refine wpL_copy rfl (.tmp 29) (.tmp 32) rfl (if n = cut then some ⟨w.heap.size, 0, none⟩ else some ⟨w.heap.size, cut, none⟩) (n - cut) (n - cut) rfl (if c = cut then A else A.map (·.add cut)) (n - cut) (c - cut) rfl w.heap.size (a.drop cut) (had.drop (by omega) hnc) w.heap.size cut (padTo n b) hg1d (fun h => if_neg (by omega)) (by rw [padTo_length]; omega) w.heap.size w hb1d (Nat.le_refl _) ?_
  intro w2 hg2 hb2
  rw [mix_tail had.1 (by omega)] at hg2
  go_wp2
  all_goals (go_ret; refine ⟨⟨_, _, rfl, ?_⟩, hb2⟩; have ho := OwnBytes.of_blk hg2.out (Nat.le_refl _) (by rw [mixOf_length (by rw [ha.1]; omega), ha.1]; omega); rw [mixOf_length (by rw [ha.1]; omega), ha.1] at ho; first | exact ho | (rename_i h; have e : n = cut := (by first | exact h | (rename_i h'; exact h')); rw [e] at ho; exact ho))

theorem mix_f2 (A A' : Option Addr) (n n' c c' : Nat) (a b : List Int) (cut : Int) (w : World) (ha : BytesAt w w.heap.size A n a) (hb : BytesAt w w.heap.size A' n' b) (hnc : n ≤ c) (hc : c ≤ 9223372036854775807) (hn : n ≤ 140737488351232) (hn' : n' ≤ 140737488351232) (s0 : n < cut) :
    Calls Try.prog 29 #[.slice A n c, .slice A' n' c', .int .i64 cut, .bool false] w fun e w' =>
      (∃ A2 c2, e = .returned (.slice A2 n c2) ∧ OwnBytes w' w.heap.size (.slice A2 n c2) (mixOf a b n false)) ∧ Below w.heap.size w w' := by
  have hmk := make_n n hn
  go_enter Try.func29, Try.ntmps29
  go_wp2_with (refine wpL_copy rfl (.tmp 18) (.tmp 19) rfl (some ⟨w.heap.size, 0, none⟩) n n rfl A' n' c' rfl w.heap.size b (hb.keep fun p hp => World.cell?_alloc_lt w _ p hp) w.heap.size 0 (nots n) (heap_alloc_new _ _) (fun _ => rfl) (by simp [nots]; omega) w.heap.size w ((Below.refl _ _).alloc (Nat.le_refl _) _) (Nat.le_refl _) ?_; intro w1 hg1 hb1; rw [pad_splice] at hg1)
  go_still_tail 6, (by kernel_rfl)
  change wpList _ _ _ _ _ w1.drew
  have hb1d := hb1.drew
  have hg1d : w1.drew.heap[w.heap.size]? = _ := hg1.out
  have had := (ha.below hb1d)
  generalize w1.drew = w1d at hb1d hg1d had ⊢
  refine wpL_copy rfl (.tmp 29) (.tmp 32) rfl (some ⟨w.heap.size, 0, none⟩) 0 0 rfl (if c = n then A else A.map (·.add n)) 0 (c - n) rfl w.heap.size [] ⟨rfl, by simp, by omega⟩ w.heap.size n (padTo n b) hg1d (fun h => absurd h (by omega)) (by rw [padTo_length]; omega) w.heap.size w hb1d (Nat.le_refl _) ?_
  intro w2 hg2 hb2
  rw [mix_tailn had.1] at hg2
  go_wp2
  all_goals (go_ret; refine ⟨⟨_, _, rfl, ?_⟩, hb2⟩; have ho := OwnBytes.of_blk hg2.out (Nat.le_refl _) (by rw [mixOf_length (by rw [ha.1]; omega), ha.1]; omega); rw [mixOf_length (by rw [ha.1]; omega), ha.1] at ho; exact ho)

theorem mix_t0 (A A' : Option Addr) (n n' c c' : Nat) (a b : List Int) (cut : Int) (w : World) (ha : BytesAt w w.heap.size A n a) (hb : BytesAt w w.heap.size A' n' b) (hnc : n ≤ c) (hc : c ≤ 9223372036854775807) (hn : n ≤ 140737488351232) (hn' : n' ≤ 140737488351232) (s0 : cut < 0) :
    Calls Try.prog 29 #[.slice A n c, .slice A' n' c', .int .i64 cut, .bool true] w fun e w' =>
      (∃ A2 c2, e = .returned (.slice A2 n c2) ∧ OwnBytes w' w.heap.size (.slice A2 n c2) (mixOf a b 0 true)) ∧ Below w.heap.size w w' := by
  have hmk := make_n n hn
  go_enter Try.func29, Try.ntmps29
  go_wp2_with (first | (refine wpL_copy rfl (.tmp 18) (.tmp 19) rfl (some ⟨w.heap.size, 0, none⟩) n n rfl A' n' c' rfl w.heap.size b (hb.keep fun p hp => World.cell?_alloc_lt w _ p hp) w.heap.size 0 (nots n) (heap_alloc_new _ _) (fun _ => rfl) (by simp [nots]; omega) w.heap.size w ((Below.refl _ _).alloc (Nat.le_refl _) _) (Nat.le_refl _) ?_; intro w1 hg1 hb1; rw [pad_splice] at hg1) | (refine wpL_copy rfl (.tmp 22) (.tmp 25) rfl (some ⟨w.heap.size, 0, none⟩) n n rfl A 0 c rfl w.heap.size (a.take 0) ((ha.below hb1).take (by omega)) w.heap.size 0 (padTo n b) hg1.out (fun _ => rfl) (by rw [padTo_length]; omega) w.heap.size w hb1 (Nat.le_refl _) ?_; intro w2 hg2 hb2; rw [mix_head ha.1 (by omega)] at hg2))
  all_goals (go_ret; refine ⟨⟨_, _, rfl, ?_⟩, hb2⟩; have ho := OwnBytes.of_blk hg2.out (Nat.le_refl _) (by rw [mixOf_length (by rw [ha.1]; omega), ha.1]; omega); rw [mixOf_length (by rw [ha.1]; omega), ha.1] at ho; exact ho)

theorem mix_t1 (A A' : Option Addr) (n n' c c' : Nat) (a b : List Int) (cut : Nat) (w : World) (ha : BytesAt w w.heap.size A n a) (hb : BytesAt w w.heap.size A' n' b) (hnc : n ≤ c) (hc : c ≤ 9223372036854775807) (hn : n ≤ 140737488351232) (hn' : n' ≤ 140737488351232) (s1 : cut ≤ n) :
    Calls Try.prog 29 #[.slice A n c, .slice A' n' c', .int .i64 (cut : Int), .bool true] w fun e w' =>
      (∃ A2 c2, e = .returned (.slice A2 n c2) ∧ OwnBytes w' w.heap.size (.slice A2 n c2) (mixOf a b cut true)) ∧ Below w.heap.size w w' := by
  have hmk := make_n n hn
  go_enter Try.func29, Try.ntmps29
  go_wp2_with (first | (refine wpL_copy rfl (.tmp 18) (.tmp 19) rfl (some ⟨w.heap.size, 0, none⟩) n n rfl A' n' c' rfl w.heap.size b (hb.keep fun p hp => World.cell?_alloc_lt w _ p hp) w.heap.size 0 (nots n) (heap_alloc_new _ _) (fun _ => rfl) (by simp [nots]; omega) w.heap.size w ((Below.refl _ _).alloc (Nat.le_refl _) _) (Nat.le_refl _) ?_; intro w1 hg1 hb1; rw [pad_splice] at hg1) | (refine wpL_copy rfl (.tmp 22) (.tmp 25) rfl (some ⟨w.heap.size, 0, none⟩) n n rfl A cut c rfl w.heap.size (a.take cut) ((ha.below hb1).take (by omega)) w.heap.size 0 (padTo n b) hg1.out (fun _ => rfl) (by rw [padTo_length]; omega) w.heap.size w hb1 (Nat.le_refl _) ?_; intro w2 hg2 hb2; rw [mix_head ha.1 (by omega)] at hg2))
  all_goals (go_ret; refine ⟨⟨_, _, rfl, ?_⟩, hb2⟩; have ho := OwnBytes.of_blk hg2.out (Nat.le_refl _) (by rw [mixOf_length (by rw [ha.1]; omega), ha.1]; omega); rw [mixOf_length (by rw [ha.1]; omega), ha.1] at ho; exact ho)

theorem mix_t2 (A A' : Option Addr) (n n' c c' : Nat) (a b : List Int) (cut : Int) (w : World) (ha : BytesAt w w.heap.size A n a) (hb : BytesAt w w.heap.size A' n' b) (hnc : n ≤ c) (hc : c ≤ 9223372036854775807) (hn : n ≤ 140737488351232) (hn' : n' ≤ 140737488351232) (s0 : n < cut) :
    Calls Try.prog 29 #[.slice A n c, .slice A' n' c', .int .i64 cut, .bool true] w fun e w' =>
      (∃ A2 c2, e = .returned (.slice A2 n c2) ∧ OwnBytes w' w.heap.size (.slice A2 n c2) (mixOf a b n true)) ∧ Below w.heap.size w w' := by
  have hmk := make_n n hn
  go_enter Try.func29, Try.ntmps29
  go_wp2_with (first | (refine wpL_copy rfl (.tmp 18) (.tmp 19) rfl (some ⟨w.heap.size, 0, none⟩) n n rfl A' n' c' rfl w.heap.size b (hb.keep fun p hp => World.cell?_alloc_lt w _ p hp) w.heap.size 0 (nots n) (heap_alloc_new _ _) (fun _ => rfl) (by simp [nots]; omega) w.heap.size w ((Below.refl _ _).alloc (Nat.le_refl _) _) (Nat.le_refl _) ?_; intro w1 hg1 hb1; rw [pad_splice] at hg1) | (refine wpL_copy rfl (.tmp 22) (.tmp 25) rfl (some ⟨w.heap.size, 0, none⟩) n n rfl A n c rfl w.heap.size (a.take n) ((ha.below hb1).take (by omega)) w.heap.size 0 (padTo n b) hg1.out (fun _ => rfl) (by rw [padTo_length]; omega) w.heap.size w hb1 (Nat.le_refl _) ?_; intro w2 hg2 hb2; rw [mix_head ha.1 (by omega)] at hg2))
  all_goals (go_ret; refine ⟨⟨_, _, rfl, ?_⟩, hb2⟩; have ho := OwnBytes.of_blk hg2.out (Nat.le_refl _) (by rw [mixOf_length (by rw [ha.1]; omega), ha.1]; omega); rw [mixOf_length (by rw [ha.1]; omega), ha.1] at ho; exact ho)

theorem mix_any (A A' : Option Addr) (n n' c c' : Nat) (a b : List Int) (cut : Int) (head : Bool) (w : World) (ha : BytesAt w w.heap.size A n a) (hb : BytesAt w w.heap.size A' n' b) (hnc : n ≤ c) (hc : c ≤ 9223372036854775807) (hn : n ≤ 140737488351232) (hn' : n' ≤ 140737488351232) :
    Calls Try.prog 29 #[.slice A n c, .slice A' n' c', .int .i64 cut, .bool head] w fun e w' =>
      (∃ A2 c2, e = .returned (.slice A2 n c2) ∧ OwnBytes w' w.heap.size (.slice A2 n c2) (mixOf a b (cutOf cut n) head)) ∧ Below w.heap.size w w' := by
  have hs : cut < 0 ∨ 0 ≤ cut ∧ cut ≤ n ∨ n < cut := by omega
  rcases hs with s0 | ⟨s0, s1⟩ | s0
  · rw [show cutOf cut n = 0 by unfold cutOf; omega]
    cases head
    · exact mix_f0 A A' n n' c c' a b cut w ha hb hnc hc hn hn' s0
    · exact mix_t0 A A' n n' c c' a b cut w ha hb hnc hc hn hn' s0
  · obtain ⟨k, rfl⟩ := Int.eq_ofNat_of_zero_le s0
    rw [show cutOf (k : Int) n = k by unfold cutOf; omega]
    cases head
    · exact mix_f1 A A' n n' c c' a b k w ha hb hnc hc hn hn' (by omega)
    · exact mix_t1 A A' n n' c c' a b k w ha hb hnc hc hn hn' (by omega)
  · rw [show cutOf cut n = n by unfold cutOf; omega]
    cases head
    · exact mix_f2 A A' n n' c c' a b cut w ha hb hnc hc hn hn' s0
    · exact mix_t2 A A' n n' c c' a b cut w ha hb hnc hc hn hn' s0

end Go.Proofs.Ytpllifppjlakpaa
